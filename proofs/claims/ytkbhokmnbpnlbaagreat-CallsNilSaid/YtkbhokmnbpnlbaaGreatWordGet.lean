/- The walks of word.Get, word.GetHigh. -/
import Derived.Test.YtkbhokmnbpnlbaaGreatWordRev
import Derived.WalkSpells
import Derived.Test.YtkbhokmnbpnlbaaGreatWordNum
import Derived.Test.YtkbhokmnbpnlbaaGreatWordGetA
import Derived.LoopTactic
namespace Go.Proofs.YtkbhokmnbpnlbaaGreat.Word
open Go.RowKit
set_option linter.unusedVariables false
theorem getHigh_bad (s : ByteArray) (hm : s.size ≤ maxLen) (h2 : ((s.size : Int) != 2) = true) (h4 : ((s.size : Int) != 4) = true) (w : World) :
    Calls Tryz.prog 223 #[.string s] w fun e w' => e = .returned (.tuple #[.int .u32 0, .int .i64 2]) ∧ w = w' := by
  unfold maxLen at hm
  go_enter Tryz.func223, Tryz.ntmps223
  go_wp2
  go_ret2
  exact ⟨rfl, rfl⟩
theorem reverse_bd {l : List Int} (h : ∀ x, x ∈ l → 0 ≤ x ∧ x < 256) : ∀ x, x ∈ l.reverse → 0 ≤ x ∧ x < 256 := fun x hx => h x (by simpa using hx)
theorem list_of2 (l : List Int) (h : l.length = 2) : [l.getD 1 0, l.getD 0 0] = l.reverse := by
  match l, h with
  | [a, b], _ => rfl
theorem list_of4 (l : List Int) (h : l.length = 4) : [l.getD 3 0, l.getD 2 0, l.getD 1 0, l.getD 0 0] = l.reverse := by
  match l, h with
  | [a, b, c, d], _ => rfl
theorem getHigh2 (s : ByteArray) (hs : s.size = 2) (w : World) :
    Calls Tryz.prog 223 #[.string s] w fun e w' => e = .returned (.tuple #[.int .u32 (getV (nums s).reverse), .int .i64 0]) ∧ Below w.heap.size w w' := by
  have Hs := Lib.hid hs
  have hl : (nums s).length = 2 := by rw [nums_length, hs]
  obtain ⟨t, ht⟩ : ∃ t, t = strOfNums (nums s).reverse := ⟨_, rfl⟩
  have htz : t.size = 2 := by rw [ht, strOfNums_size, List.length_reverse, hl]
  have htn : nums t = (nums s).reverse := by rw [ht]; exact nums_strOfNums _ (reverse_bd (nums_bd s))
  have Ht := Lib.hid (show strOfNums [(nums s).getD 1 0, (nums s).getD 0 0] = t by rw [ht, list_of2 _ hl])
  have Hz := Lib.hid htz
  have Hn := Lib.hid htn
  clear hl ht htz htn
  go_enter Tryz.func223, Tryz.ntmps223
  go_wp2_with (first | (go_at_call 257; refine (turned2 _ Hs.out _).mono ?_; rintro e w2 ⟨rfl, hb⟩; rw [Ht.out]) | (go_at_call 208; refine (get_ok t (by rw [Hz.out]; omega) (by rw [Hz.out]; omega) _).mono ?_; rintro e w3 ⟨rfl, rfl⟩))
  go_ret2
  exact ⟨ret_ie (by rw [Hn.out]), by assumption⟩
theorem getHigh4 (s : ByteArray) (hs : s.size = 4) (w : World) :
    Calls Tryz.prog 223 #[.string s] w fun e w' => e = .returned (.tuple #[.int .u32 (getV (nums s).reverse), .int .i64 0]) ∧ Below w.heap.size w w' := by
  have Hs := Lib.hid hs
  have hl : (nums s).length = 4 := by rw [nums_length, hs]
  obtain ⟨t, ht⟩ : ∃ t, t = strOfNums (nums s).reverse := ⟨_, rfl⟩
  have htz : t.size = 4 := by rw [ht, strOfNums_size, List.length_reverse, hl]
  have htn : nums t = (nums s).reverse := by rw [ht]; exact nums_strOfNums _ (reverse_bd (nums_bd s))
  have Ht := Lib.hid (show strOfNums [(nums s).getD 3 0, (nums s).getD 2 0, (nums s).getD 1 0, (nums s).getD 0 0] = t by rw [ht, list_of4 _ hl])
  have Hz := Lib.hid htz
  have Hn := Lib.hid htn
  clear hl ht htz htn
  go_enter Tryz.func223, Tryz.ntmps223
  go_wp2_with (first | (go_at_call 257; refine (turned4 _ Hs.out _).mono ?_; rintro e w2 ⟨rfl, hb⟩; rw [Ht.out]) | (go_at_call 208; refine (get_ok t (by rw [Hz.out]; omega) (by rw [Hz.out]; omega) _).mono ?_; rintro e w3 ⟨rfl, rfl⟩))
  go_ret2
  exact ⟨ret_ie (by rw [Hn.out]), by assumption⟩
end Go.Proofs.YtkbhokmnbpnlbaaGreat.Word
