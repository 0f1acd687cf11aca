/- The walks of aediculeref01's Put, PutHigh, Get, GetHigh, Hex, digit, Unhex. -/
import Derived.Test.YtijdeljkppghbaaWordRefC
namespace Go.Proofs.Ytijdeljkppghbaa.WordRef
open Go.RowKit Word
set_option linter.unusedVariables false
theorem bytesAt (v n : Int) (m : Nat) (hm : (m : Int) = n) (hn : m ≤ 4) (h0 : 0 ≤ v) (h1 : v ≤ 4294967295) (w : World) :
    Calls Try.prog 55 #[.int .u32 v, .int .i64 n] w fun e w' => e = .returned (.string (putS v m)) ∧ Below w.heap.size w w' := by
  subst hm
  exact Bytes v m hn h0 h1 w
theorem put_bad (v n : Int) (h0 : 0 ≤ v) (h1 : v ≤ 4294967295) (hn : n < 1 ∨ 4 < n) (w : World) :
    Calls Try.prog 21 #[.int .u32 v, .int .i64 n] w fun e w' => e = .returned (.tuple #[.string ByteArray.empty, .int .i64 2]) ∧ w = w' := by
  rcases hn with hn | hn
  · go_enter Try.func21, Try.ntmps21
    go_wp2
    go_ret2
    exact ⟨rfl, rfl⟩
  · have hn2 : decide (n < 1) = false := decide_eq_false (by omega)
    go_enter Try.func21, Try.ntmps21
    go_wp2
    go_ret2
    exact ⟨rfl, rfl⟩
theorem put1_long (v : Int) (h0 : 0 ≤ v) (h1 : v ≤ 4294967295) (hl : 256 ≤ v) (w : World) :
    Calls Try.prog 21 #[.int .u32 v, .int .i64 1] w fun e w' => e = .returned (.tuple #[.string ByteArray.empty, .int .i64 5]) ∧ w = w' := by
  go_enter Try.func21, Try.ntmps21
  go_wp2
  go_ret2
  exact ⟨rfl, rfl⟩
theorem put1_ok (v : Int) (h0 : 0 ≤ v) (h1 : v ≤ 4294967295) (hl : v < 256) (w : World) :
    Calls Try.prog 21 #[.int .u32 v, .int .i64 1] w fun e w' => e = .returned (.tuple #[.string (putS v 1), .int .i64 0]) ∧ Below w.heap.size w w' := by
  go_enter Try.func21, Try.ntmps21
  go_wp2_with (go_at_call 55; (with_reducible refine (bytesAt v 1 1 rfl (by omega) h0 h1 _).mono ?_); rintro e w1 ⟨rfl, hb⟩)
  go_ret2
  exact ⟨rfl, by assumption⟩
theorem put2_long (v : Int) (h0 : 0 ≤ v) (h1 : v ≤ 4294967295) (hl : 65536 ≤ v) (w : World) :
    Calls Try.prog 21 #[.int .u32 v, .int .i64 2] w fun e w' => e = .returned (.tuple #[.string ByteArray.empty, .int .i64 5]) ∧ w = w' := by
  go_enter Try.func21, Try.ntmps21
  go_wp2
  go_ret2
  exact ⟨rfl, rfl⟩
theorem put2_ok (v : Int) (h0 : 0 ≤ v) (h1 : v ≤ 4294967295) (hl : v < 65536) (w : World) :
    Calls Try.prog 21 #[.int .u32 v, .int .i64 2] w fun e w' => e = .returned (.tuple #[.string (putS v 2), .int .i64 0]) ∧ Below w.heap.size w w' := by
  go_enter Try.func21, Try.ntmps21
  go_wp2_with (go_at_call 55; (with_reducible refine (bytesAt v 2 2 rfl (by omega) h0 h1 _).mono ?_); rintro e w1 ⟨rfl, hb⟩)
  go_ret2
  exact ⟨rfl, by assumption⟩
theorem put3_long (v : Int) (h0 : 0 ≤ v) (h1 : v ≤ 4294967295) (hl : 16777216 ≤ v) (w : World) :
    Calls Try.prog 21 #[.int .u32 v, .int .i64 3] w fun e w' => e = .returned (.tuple #[.string ByteArray.empty, .int .i64 5]) ∧ w = w' := by
  go_enter Try.func21, Try.ntmps21
  go_wp2
  go_ret2
  exact ⟨rfl, rfl⟩
theorem put3_ok (v : Int) (h0 : 0 ≤ v) (h1 : v ≤ 4294967295) (hl : v < 16777216) (w : World) :
    Calls Try.prog 21 #[.int .u32 v, .int .i64 3] w fun e w' => e = .returned (.tuple #[.string (putS v 3), .int .i64 0]) ∧ Below w.heap.size w w' := by
  go_enter Try.func21, Try.ntmps21
  go_wp2_with (go_at_call 55; (with_reducible refine (bytesAt v 3 3 rfl (by omega) h0 h1 _).mono ?_); rintro e w1 ⟨rfl, hb⟩)
  go_ret2
  exact ⟨rfl, by assumption⟩
theorem put4_ok (v : Int) (h0 : 0 ≤ v) (h1 : v ≤ 4294967295) (w : World) :
    Calls Try.prog 21 #[.int .u32 v, .int .i64 4] w fun e w' => e = .returned (.tuple #[.string (putS v 4), .int .i64 0]) ∧ Below w.heap.size w w' := by
  go_enter Try.func21, Try.ntmps21
  go_wp2_with (go_at_call 55; (with_reducible refine (bytesAt v 4 4 rfl (by omega) h0 h1 _).mono ?_); rintro e w1 ⟨rfl, hb⟩)
  go_ret2
  exact ⟨rfl, by assumption⟩
theorem putHigh_bad (v n : Int) (h0 : 0 ≤ v) (h1 : v ≤ 4294967295) (hn : (n != 2) = true) (hn2 : (n != 4) = true) (w : World) :
    Calls Try.prog 23 #[.int .u32 v, .int .i64 n] w fun e w' => e = .returned (.tuple #[.string ByteArray.empty, .int .i64 2]) ∧ w = w' := by
  go_enter Try.func23, Try.ntmps23
  go_wp2
  go_ret2
  exact ⟨rfl, rfl⟩
theorem turned_empty (w : World) : Calls Try.prog 57 #[.string ByteArray.empty] w fun e w' => e = .returned (.string ByteArray.empty) ∧ Below w.heap.size w w' := turned ByteArray.empty (by decide) w
theorem putHigh2_long (v : Int) (h0 : 0 ≤ v) (h1 : v ≤ 4294967295) (hl : 65536 ≤ v) (w : World) :
    Calls Try.prog 23 #[.int .u32 v, .int .i64 2] w fun e w' => e = .returned (.tuple #[.string ByteArray.empty, .int .i64 5]) ∧ Below w.heap.size w w' := by
  go_enter Try.func23, Try.ntmps23
  go_wp2_with (first | (go_at_call 21; (with_reducible refine (put2_long _ h0 h1 hl _).mono ?_); rintro e w1 ⟨rfl, rfl⟩) | (go_at_call 57; (with_reducible refine (turned_empty _).mono ?_); rintro e w1 ⟨rfl, hb⟩))
  go_ret2
  exact ⟨rfl, by assumption⟩
theorem putHigh2 (v : Int) (h0 : 0 ≤ v) (h1 : v ≤ 4294967295) (hl : v < 65536) (w : World) :
    Calls Try.prog 23 #[.int .u32 v, .int .i64 2] w fun e w' => e = .returned (.tuple #[.string (putHS v 2), .int .i64 0]) ∧ Below w.heap.size w w' := by
  have Hz := Lib.hid (show (putS v 2).size ≤ 65536 by rw [putS, strOfNums_size]; exact Nat.le_trans (List.length_take_le _ _) (by omega))
  have Hv := Lib.hid (show strOfNums (nums (putS v 2)).reverse = putHS v 2 by rw [nums_putS v h0 h1 2]; rfl)
  go_enter Try.func23, Try.ntmps23
  go_wp2_with (first | (go_at_call 21; (with_reducible refine (put2_ok _ h0 h1 hl _).mono ?_); rintro e w1 ⟨rfl, hg⟩) | (go_at_call 57; (with_reducible refine (turned _ Hz.out _).mono ?_); rintro e w2 ⟨rfl, hb⟩; rw [Hv.out]))
  go_ret2
  exact ⟨rfl, below_th (by assumption) (by assumption)⟩
theorem putHigh4 (v : Int) (h0 : 0 ≤ v) (h1 : v ≤ 4294967295) (w : World) :
    Calls Try.prog 23 #[.int .u32 v, .int .i64 4] w fun e w' => e = .returned (.tuple #[.string (putHS v 4), .int .i64 0]) ∧ Below w.heap.size w w' := by
  have Hz := Lib.hid (show (putS v 4).size ≤ 65536 by rw [putS, strOfNums_size]; exact Nat.le_trans (List.length_take_le _ _) (by omega))
  have Hv := Lib.hid (show strOfNums (nums (putS v 4)).reverse = putHS v 4 by rw [nums_putS v h0 h1 4]; rfl)
  go_enter Try.func23, Try.ntmps23
  go_wp2_with (first | (go_at_call 21; (with_reducible refine (put4_ok _ h0 h1 _).mono ?_); rintro e w1 ⟨rfl, hg⟩) | (go_at_call 57; (with_reducible refine (turned _ Hz.out _).mono ?_); rintro e w2 ⟨rfl, hb⟩; rw [Hv.out]))
  go_ret2
  exact ⟨rfl, below_th (by assumption) (by assumption)⟩
theorem get_bad (s : ByteArray) (hs : s.size < 1 ∨ 4 < s.size) (hm : s.size ≤ maxLen) (w : World) :
    Calls Try.prog 25 #[.string s] w fun e w' => e = .returned (.tuple #[.int .u32 0, .int .i64 2]) ∧ w = w' := by
  unfold maxLen at hm
  rcases hs with hs | hs
  · go_enter Try.func25, Try.ntmps25
    go_wp2
    go_ret2
    exact ⟨rfl, rfl⟩
  · have h2 : decide (s.size < 1) = false := decide_eq_false (by omega)
    go_enter Try.func25, Try.ntmps25
    go_wp2
    go_ret2
    exact ⟨rfl, rfl⟩
/-- The number of what stands from place j on. -/
theorem getV_drop (s : ByteArray) (j : Nat) (hj : j < s.size) : getV ((nums s).drop j) = 256 * getV ((nums s).drop (j + 1)) + ((s[j]'hj).toNat : Int) := by
  have hl : j < (nums s).length := by rw [nums_length]; exact hj
  rw [List.drop_eq_getElem_cons hl]
  have e := nums_get s j hj
  rw [e, List.getD, List.getElem?_eq_getElem hl]
  show (nums s)[j] + 256 * getV _ = _
  simp only [Option.getD_some]
  omega
theorem getV_drop_bd (s : ByteArray) (j : Nat) (h4 : s.size ≤ 4) : 0 ≤ getV ((nums s).drop j) ∧ getV ((nums s).drop j) ≤ 4294967295 := by
  have hb := getV_bd ((nums s).drop j) fun y hy => nums_bd s y (List.mem_of_mem_drop hy)
  have hl : ((nums s).drop j).length ≤ 4 := by rw [List.length_drop, nums_length]; omega
  generalize ((nums s).drop j).length = n at hb hl
  have : n = 0 ∨ n = 1 ∨ n = 2 ∨ n = 3 ∨ n = 4 := by omega
  rcases this with rfl | rfl | rfl | rfl | rfl <;> simp at hb <;> omega
def getRelR (s : ByteArray) (v i : Value) : Prop := ∃ (k : Nat) (x : Int), k ≤ s.size ∧ i = .int .i64 ((s.size : Int) - 1 - k) ∧ v = .int .u32 x ∧ 0 ≤ x ∧ x ≤ 4294967295 ∧ x = getV ((nums s).drop (s.size - k))
theorem get_ok (s : ByteArray) (h1 : 1 ≤ s.size) (h4 : s.size ≤ 4) (w : World) :
    Calls Try.prog 25 #[.string s] w fun e w' => e = .returned (.tuple #[.int .u32 (getV (nums s)), .int .i64 0]) ∧ w = w' := by
  go_enter Try.func25, Try.ntmps25
  go_wp2
  go_loop [4, 5] (fun v i => getRelR s v i) (fun _ i => (intOf i + 1).toNat)
  case atStart => exact ⟨0, 0, by omega, by simp, rfl, by omega, by omega, by rw [Nat.sub_zero, List.drop_of_length_le (by rw [nums_length]; omega)]; rfl⟩
  case round =>
    obtain ⟨k, x, hk, rfl, rfl, x0, x1, hx⟩ := hrel
    by_cases hk2 : k < s.size
    · obtain ⟨j, hj⟩ : ∃ j : Nat, s.size - 1 - k = j := ⟨_, rfl⟩
      have hjs : j < s.size := by omega
      have hj1 : s.size - k = j + 1 := by omega
      have ej : (s.size : Int) - 1 - k = (j : Int) := by omega
      have hb8 := byte_bd (s[j]'hjs)
      have hn := getV_drop s j hjs
      rw [← hj1, ← hx] at hn
      have hbd := getV_drop_bd s j h4
      have Hn := Lib.hid hn
      have Hbd := Lib.hid hbd
      have Hj := Lib.hid (show s.size - (k + 1) = j by omega)
      rw [ej]
      clear hn hbd ej hx
      go_wp2
      have e1 := Hn.out
      have e2 := Hbd.out
      refine ⟨⟨k + 1, _, by omega, congrArg _ (by omega), rfl, by omega, by omega, ?_⟩, by simp [intOf]⟩
      rw [Hj.out, e1]
      omega
    · obtain rfl : k = s.size := by omega
      have hneg : (s.size : Int) - 1 - (s.size : Int) = -1 := by omega
      rw [hneg]
      rw [Nat.sub_self, List.drop_zero] at hx
      have Hx := Lib.hid hx
      clear hx hneg
      go_wp2
      go_ret2
      exact ⟨ret_ie Hx.out, rfl⟩
theorem getHigh_bad (s : ByteArray) (hm : s.size ≤ maxLen) (h2 : ((s.size : Int) != 2) = true) (h4 : ((s.size : Int) != 4) = true) (w : World) :
    Calls Try.prog 27 #[.string s] w fun e w' => e = .returned (.tuple #[.int .u32 0, .int .i64 2]) ∧ w = w' := by
  unfold maxLen at hm
  go_enter Try.func27, Try.ntmps27
  go_wp2
  go_ret2
  exact ⟨rfl, rfl⟩
theorem getHigh_ok (s : ByteArray) (hs : s.size = 2 ∨ s.size = 4) (w : World) :
    Calls Try.prog 27 #[.string s] w fun e w' => e = .returned (.tuple #[.int .u32 (getV (nums s).reverse), .int .i64 0]) ∧ Below w.heap.size w w' := by
  obtain ⟨t, ht⟩ : ∃ t, strOfNums (nums s).reverse = t := ⟨_, rfl⟩
  have Ht := Lib.hid ht
  have htz : t.size = s.size := by rw [← ht, strOfNums_size, List.length_reverse, nums_length]
  have Hn := Lib.hid (show nums t = (nums s).reverse by rw [← ht]; exact nums_strOfNums _ (reverse_bd (nums_bd s)))
  clear ht
  rcases hs with hs | hs
  all_goals
    have Hs := Lib.hid (show s.size ≤ 65536 by omega)
    have H1 := Lib.hid (show 1 ≤ t.size by omega)
    have H4 := Lib.hid (show t.size ≤ 4 by omega)
    clear htz
    go_enter Try.func27, Try.ntmps27
    go_wp2_with (first | (go_at_call 57; (with_reducible refine (turned s Hs.out _).mono ?_); rintro e w2 ⟨rfl, hb⟩; rw [Ht.out]) | (go_at_call 25; (with_reducible refine (get_ok t H1.out H4.out _).mono ?_); rintro e w3 ⟨rfl, rfl⟩))
    go_ret2
    exact ⟨ret_ie (by rw [Hn.out]), by assumption⟩
end Go.Proofs.Ytijdeljkppghbaa.WordRef
