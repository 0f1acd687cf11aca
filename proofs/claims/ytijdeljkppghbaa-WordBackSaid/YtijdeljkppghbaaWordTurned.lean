/- The walks of slices.Reverse at 0, 2 and 4 bytes, of word.turned and word.PutHigh. -/
import Derived.Test.YtijdeljkppghbaaWordPut
import Derived.RegionTactic
import Derived.ChangeAlike
import Derived.BigRegion
import Derived.WalkSmall
namespace Go.Proofs.Ytijdeljkppghbaa.Word
open Go.RowKit
set_option linter.unusedVariables false
theorem rev0 (a : Option Addr) (cap : Nat) (w : World) :
    Calls Try.prog 62 #[.slice a 0 cap] w fun e w' => e = .returned (.tuple #[]) ∧ w = w' := by
  go_enter Try.func62, Try.ntmps62
  go_wp2
  refine wp_loop_rounds 1 ?_
  simp only [rounds_succ]
  go_wp2
  go_end0
  exact ⟨rfl, rfl⟩
theorem rev2 (b cap : Nat) (x0 x1 : Int) (w : World) (c0 : w.cell? ⟨b, 0, none⟩ = some (.int .u8 x0)) (c1 : w.cell? ⟨b, 1, none⟩ = some (.int .u8 x1)) (f0 : w.frozen? ⟨b, 0, none⟩ = false) (f1 : w.frozen? ⟨b, 1, none⟩ = false) :
    Calls Try.prog 62 #[.slice (some ⟨b, 0, none⟩) 2 cap] w fun e w' => e = .returned (.tuple #[]) ∧ Row8 w' b [x1, x0] ∧ Below b w w' := by
  go_enter Try.func62, Try.ntmps62
  go_wp2
  refine wp_loop_rounds 2 ?_
  rw [rounds_succ]
  go_wp2
  go_region
  go_wp2
  rw [rounds_succ]
  go_wp2
  go_end0
  refine ⟨rfl, row8_of2 (by go_simp) (by go_simp), ?_⟩
  repeat (first | exact Below.refl _ _ | apply Below.drew | refine Below.setCell ?_ (by simp) _)
theorem rev4 (b cap : Nat) (x0 x1 x2 x3 : Int) (w : World) (c0 : w.cell? ⟨b, 0, none⟩ = some (.int .u8 x0)) (c1 : w.cell? ⟨b, 1, none⟩ = some (.int .u8 x1)) (c2 : w.cell? ⟨b, 2, none⟩ = some (.int .u8 x2)) (c3 : w.cell? ⟨b, 3, none⟩ = some (.int .u8 x3)) (f0 : w.frozen? ⟨b, 0, none⟩ = false) (f1 : w.frozen? ⟨b, 1, none⟩ = false) (f2 : w.frozen? ⟨b, 2, none⟩ = false) (f3 : w.frozen? ⟨b, 3, none⟩ = false) :
    Calls Try.prog 62 #[.slice (some ⟨b, 0, none⟩) 4 cap] w fun e w' => e = .returned (.tuple #[]) ∧ Row8 w' b [x3, x2, x1, x0] ∧ Below b w w' := by
  go_enter Try.func62, Try.ntmps62
  go_wp2
  refine wp_loop_rounds 3 ?_
  rw [rounds_succ]
  go_wp2
  go_region
  go_wp2
  rw [rounds_succ]
  go_wp2
  go_region
  go_wp2
  rw [rounds_succ]
  go_wp2
  go_end0
  refine ⟨rfl, row8_of4 (by go_simp) (by go_simp) (by go_simp) (by go_simp), ?_⟩
  repeat (first | exact Below.refl _ _ | apply Below.drew | refine Below.setCell ?_ (by simp) _)
theorem turned0 (w : World) : Calls Try.prog 56 #[.string ByteArray.empty] w fun e w' => e = .returned (.string ByteArray.empty) ∧ Below w.heap.size w w' := by
  have hcv2 := fun (w : World) (a : Addr) cap => run_convert_bytes_back (P := Try.prog) w 32 9 5 a cap [] Try.underlying32 Try.underlying5 Try.underlying9 (fun j hj => absurd hj (by simp))
  simp only [List.length_nil] at hcv2
  have hcv := fun (w : World) => run_bytes_of_string (P := Try.prog) w 9 32 5 ByteArray.empty Try.underlying9 Try.underlying32 Try.underlying5
  go_enter Try.func56, Try.ntmps56
  go_wp2_with (go_at_call 62; refine (rev0 _ _ _).mono ?_; rintro e w1 ⟨rfl, rfl⟩)
  go_ret
  exact ⟨rfl, ((Below.refl _ _).alloc (Nat.le_refl _) _).drew⟩
theorem turned2 (s : ByteArray) (hs : s.size = 2) (w : World) : Calls Try.prog 56 #[.string s] w fun e w' => e = .returned (.string (strOfNums [(nums s).getD 1 0, (nums s).getD 0 0])) ∧ Below w.heap.size w w' := by
  have hcv := fun (w : World) => run_bytes_of_string (P := Try.prog) w 9 32 5 s Try.underlying9 Try.underlying32 Try.underlying5
  have hfb := Lib.hid (fun w c j t fr hj => fresh_bytes w s c j t fr hj)
  have hff := Lib.hid (fun w c j t hj => fresh_free w s c j t hj)
  go_enter Try.func56, Try.ntmps56
  go_wp2_with fail
  refine (rev2 _ _ ((nums s).getD 0 0) ((nums s).getD 1 0) _ (hfb.out _ _ _ _ _ (by omega)) (hfb.out _ _ _ _ _ (by omega)) (hff.out _ _ _ _ (by omega)) (hff.out _ _ _ _ (by omega))).mono ?_
  rintro e w1 ⟨rfl, hr, hb⟩
  have hcv2 := fun cap => run_convert_bytes_arg (P := Try.prog) w1 32 5 Try.underlying32 Try.underlying5 w.heap.size 0 2 cap _ rfl hr 9 Try.underlying9
  have Hb := Lib.hid hb
  clear hr hb
  go_wp2
  go_ret
  exact ⟨rfl, ((((Below.refl _ _).alloc (Nat.le_refl _) _).drew).trans Hb.out)⟩
theorem turned4 (s : ByteArray) (hs : s.size = 4) (w : World) : Calls Try.prog 56 #[.string s] w fun e w' => e = .returned (.string (strOfNums [(nums s).getD 3 0, (nums s).getD 2 0, (nums s).getD 1 0, (nums s).getD 0 0])) ∧ Below w.heap.size w w' := by
  have hcv := fun (w : World) => run_bytes_of_string (P := Try.prog) w 9 32 5 s Try.underlying9 Try.underlying32 Try.underlying5
  have hfb := Lib.hid (fun w c j t fr hj => fresh_bytes w s c j t fr hj)
  have hff := Lib.hid (fun w c j t hj => fresh_free w s c j t hj)
  go_enter Try.func56, Try.ntmps56
  go_wp2_with fail
  refine (rev4 _ _ ((nums s).getD 0 0) ((nums s).getD 1 0) ((nums s).getD 2 0) ((nums s).getD 3 0) _ (hfb.out _ _ _ _ _ (by omega)) (hfb.out _ _ _ _ _ (by omega)) (hfb.out _ _ _ _ _ (by omega)) (hfb.out _ _ _ _ _ (by omega)) (hff.out _ _ _ _ (by omega)) (hff.out _ _ _ _ (by omega)) (hff.out _ _ _ _ (by omega)) (hff.out _ _ _ _ (by omega))).mono ?_
  rintro e w1 ⟨rfl, hr, hb⟩
  have hcv2 := fun cap => run_convert_bytes_arg (P := Try.prog) w1 32 5 Try.underlying32 Try.underlying5 w.heap.size 0 4 cap _ rfl hr 9 Try.underlying9
  have Hb := Lib.hid hb
  clear hr hb
  go_wp2
  go_ret
  exact ⟨rfl, ((((Below.refl _ _).alloc (Nat.le_refl _) _).drew).trans Hb.out)⟩
theorem putL_bd (v : Int) (h0 : 0 ≤ v) (h1 : v ≤ 4294967295) (n : Nat) : ∀ x, x ∈ (putL v).take n → 0 ≤ x ∧ x < 256 := by
  intro x hx
  have := List.mem_of_mem_take hx
  simp only [putL, List.mem_cons, List.not_mem_nil, or_false] at this
  omega
theorem nums_putS (v : Int) (h0 : 0 ≤ v) (h1 : v ≤ 4294967295) (n : Nat) : nums (putS v n) = (putL v).take n := nums_strOfNums _ (putL_bd v h0 h1 n)
/-- highest first -/
def putHS (v : Int) (n : Nat) : ByteArray := strOfNums ((putL v).take n).reverse
theorem putHigh_bad (v n : Int) (h0 : 0 ≤ v) (h1 : v ≤ 4294967295) (hn : (n != 2) = true) (hn2 : (n != 4) = true) (w : World) :
    Calls Try.prog 22 #[.int .u32 v, .int .i64 n] w fun e w' => e = .returned (.tuple #[.string ByteArray.empty, .int .i64 2]) ∧ w = w' := by
  go_enter Try.func22, Try.ntmps22
  go_wp2
  go_ret2
  exact ⟨rfl, rfl⟩
theorem putHigh2_long (v : Int) (h0 : 0 ≤ v) (h1 : v ≤ 4294967295) (hl : (v / 65536 != 0) = true) (w : World) :
    Calls Try.prog 22 #[.int .u32 v, .int .i64 2] w fun e w' => e = .returned (.tuple #[.string ByteArray.empty, .int .i64 5]) ∧ Below w.heap.size w w' := by
  have Hl := Lib.hid hl
  clear hl
  go_enter Try.func22, Try.ntmps22
  go_wp2_with (first | (go_at_call 20; refine (put2_long _ h0 h1 Hl.out _).mono ?_; rintro e w1 ⟨rfl, rfl⟩) | (go_at_call 56; refine (turned0 _).mono ?_; rintro e w1 ⟨rfl, hb⟩))
  go_ret2
  exact ⟨rfl, by assumption⟩

theorem putHigh2 (v : Int) (h0 : 0 ≤ v) (h1 : v ≤ 4294967295) (hl : (v / 65536 != 0) = false) (w : World) :
    Calls Try.prog 22 #[.int .u32 v, .int .i64 2] w fun e w' => e = .returned (.tuple #[.string (putHS v 2), .int .i64 0]) ∧ Below w.heap.size w w' := by
  have Hl := Lib.hid hl; clear hl
  have hz : (putS v 2).size = 2 := by rw [putS, strOfNums_size]; rfl
  have Hz := Lib.hid hz
  clear hz
  have hv := nums_putS v h0 h1 2
  have Hv := Lib.hid hv
  clear hv
  go_enter Try.func22, Try.ntmps22
  go_wp2_with (first | (go_at_call 20; refine (put2_ok _ h0 h1 Hl.out _).mono ?_; rintro e w1 ⟨rfl, hg⟩) | (go_at_call 56; refine (turned2 _ Hz.out _).mono ?_; rintro e w2 ⟨rfl, hb⟩))
  go_ret2
  refine ⟨ret_se ?_, below_th (by assumption) (by assumption)⟩
  rw [Hv.out]
  rfl
theorem putHigh4 (v : Int) (h0 : 0 ≤ v) (h1 : v ≤ 4294967295) (w : World) :
    Calls Try.prog 22 #[.int .u32 v, .int .i64 4] w fun e w' => e = .returned (.tuple #[.string (putHS v 4), .int .i64 0]) ∧ Below w.heap.size w w' := by
  skip
  have hz : (putS v 4).size = 4 := by rw [putS, strOfNums_size]; rfl
  have Hz := Lib.hid hz
  clear hz
  have hv := nums_putS v h0 h1 4
  have Hv := Lib.hid hv
  clear hv
  go_enter Try.func22, Try.ntmps22
  go_wp2_with (first | (go_at_call 20; refine (put4_ok _ h0 h1 _).mono ?_; rintro e w1 ⟨rfl, hg⟩) | (go_at_call 56; refine (turned4 _ Hz.out _).mono ?_; rintro e w2 ⟨rfl, hb⟩))
  go_ret2
  refine ⟨ret_se ?_, below_th (by assumption) (by assumption)⟩
  rw [Hv.out]
  rfl
end Go.Proofs.Ytijdeljkppghbaa.Word
