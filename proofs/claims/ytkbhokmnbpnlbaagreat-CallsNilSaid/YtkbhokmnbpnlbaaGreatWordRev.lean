/- The walks of slices.Reverse at 0, 2 and 4 bytes, and of word.turned. -/
import Derived.Test.YtkbhokmnbpnlbaaGreatProg
import Derived.Test.YtkbhokmnbpnlbaaGreatBase
import Derived.WalkSpells
import Derived.WalkLawsBesides
import Derived.RegionTactic
import Derived.ChangeAlike
import Derived.BigRegion
import Derived.WalkSmall
namespace Go.Proofs.YtkbhokmnbpnlbaaGreat.Word
open Go.RowKit
set_option linter.unusedVariables false
theorem rev0 (a : Option Addr) (cap : Nat) (w : World) :
    Calls Tryz.prog 284 #[.slice a 0 cap] w fun e w' => e = .returned (.tuple #[]) ∧ w = w' := by
  go_enter Tryz.func284, Tryz.ntmps284
  go_wp2
  refine wp_loop_rounds 1 ?_
  simp only [rounds_succ]
  go_wp2
  go_end0
  exact ⟨rfl, rfl⟩
theorem rev2 (b cap : Nat) (x0 x1 : Int) (w : World) (c0 : w.cell? ⟨b, 0, none⟩ = some (.int .u8 x0)) (c1 : w.cell? ⟨b, 1, none⟩ = some (.int .u8 x1)) (f0 : w.frozen? ⟨b, 0, none⟩ = false) (f1 : w.frozen? ⟨b, 1, none⟩ = false) :
    Calls Tryz.prog 284 #[.slice (some ⟨b, 0, none⟩) 2 cap] w fun e w' => e = .returned (.tuple #[]) ∧ Row8 w' b [x1, x0] ∧ Below b w w' := by
  go_enter Tryz.func284, Tryz.ntmps284
  go_wp2
  refine wp_loop_rounds 2 ?_
  rw [rounds_succ]
  go_wp2
  go_region
  go_wp2
  rw [rounds_succ]
  go_wp2
  go_end0
  refine ⟨rfl, row8_of2 (by go_simp) (by go_simp), ?_⟩
  repeat (first | exact Below.refl _ _ | apply Below.drew | refine Below.setCell ?_ (by simp) _)
theorem rev4 (b cap : Nat) (x0 x1 x2 x3 : Int) (w : World) (c0 : w.cell? ⟨b, 0, none⟩ = some (.int .u8 x0)) (c1 : w.cell? ⟨b, 1, none⟩ = some (.int .u8 x1)) (c2 : w.cell? ⟨b, 2, none⟩ = some (.int .u8 x2)) (c3 : w.cell? ⟨b, 3, none⟩ = some (.int .u8 x3)) (f0 : w.frozen? ⟨b, 0, none⟩ = false) (f1 : w.frozen? ⟨b, 1, none⟩ = false) (f2 : w.frozen? ⟨b, 2, none⟩ = false) (f3 : w.frozen? ⟨b, 3, none⟩ = false) :
    Calls Tryz.prog 284 #[.slice (some ⟨b, 0, none⟩) 4 cap] w fun e w' => e = .returned (.tuple #[]) ∧ Row8 w' b [x3, x2, x1, x0] ∧ Below b w w' := by
  go_enter Tryz.func284, Tryz.ntmps284
  go_wp2
  refine wp_loop_rounds 3 ?_
  rw [rounds_succ]
  go_wp2
  go_region
  go_wp2
  rw [rounds_succ]
  go_wp2
  go_region
  go_wp2
  rw [rounds_succ]
  go_wp2
  go_end0
  refine ⟨rfl, row8_of4 (by go_simp) (by go_simp) (by go_simp) (by go_simp), ?_⟩
  repeat (first | exact Below.refl _ _ | apply Below.drew | refine Below.setCell ?_ (by simp) _)
theorem turned0 (w : World) : Calls Tryz.prog 257 #[.string ByteArray.empty] w fun e w' => e = .returned (.string ByteArray.empty) ∧ Below w.heap.size w w' := by
  have hcv2 := fun (w : World) (a : Addr) cap => run_convert_bytes_back (P := Tryz.prog) w 33 9 5 a cap [] Tryz.underlying33 Tryz.underlying5 Tryz.underlying9 (fun j hj => absurd hj (by simp))
  simp only [List.length_nil] at hcv2
  have hcv := fun (w : World) => run_bytes_of_string (P := Tryz.prog) w 9 33 5 ByteArray.empty Tryz.underlying9 Tryz.underlying33 Tryz.underlying5
  go_enter Tryz.func257, Tryz.ntmps257
  go_wp2_with (go_at_call 284; refine (rev0 _ _ _).mono ?_; rintro e w1 ⟨rfl, rfl⟩)
  go_ret
  exact ⟨rfl, ((Below.refl _ _).alloc (Nat.le_refl _) _).drew⟩
theorem turned2 (s : ByteArray) (hs : s.size = 2) (w : World) : Calls Tryz.prog 257 #[.string s] w fun e w' => e = .returned (.string (strOfNums [(nums s).getD 1 0, (nums s).getD 0 0])) ∧ Below w.heap.size w w' := by
  have hcv := fun (w : World) => run_bytes_of_string (P := Tryz.prog) w 9 33 5 s Tryz.underlying9 Tryz.underlying33 Tryz.underlying5
  have hfb := Lib.hid (fun w c j t fr hj => fresh_bytes w s c j t fr hj)
  have hff := Lib.hid (fun w c j t hj => fresh_free w s c j t hj)
  go_enter Tryz.func257, Tryz.ntmps257
  go_wp2_with fail
  refine (rev2 _ _ ((nums s).getD 0 0) ((nums s).getD 1 0) _ (hfb.out _ _ _ _ _ (by omega)) (hfb.out _ _ _ _ _ (by omega)) (hff.out _ _ _ _ (by omega)) (hff.out _ _ _ _ (by omega))).mono ?_
  rintro e w1 ⟨rfl, hr, hb⟩
  have hcv2 := fun cap => run_convert_bytes_arg (P := Tryz.prog) w1 33 5 Tryz.underlying33 Tryz.underlying5 w.heap.size 0 2 cap _ rfl hr 9 Tryz.underlying9
  have Hb := Lib.hid hb
  clear hr hb
  go_wp2
  go_ret
  exact ⟨rfl, ((((Below.refl _ _).alloc (Nat.le_refl _) _).drew).trans Hb.out)⟩
theorem turned4 (s : ByteArray) (hs : s.size = 4) (w : World) : Calls Tryz.prog 257 #[.string s] w fun e w' => e = .returned (.string (strOfNums [(nums s).getD 3 0, (nums s).getD 2 0, (nums s).getD 1 0, (nums s).getD 0 0])) ∧ Below w.heap.size w w' := by
  have hcv := fun (w : World) => run_bytes_of_string (P := Tryz.prog) w 9 33 5 s Tryz.underlying9 Tryz.underlying33 Tryz.underlying5
  have hfb := Lib.hid (fun w c j t fr hj => fresh_bytes w s c j t fr hj)
  have hff := Lib.hid (fun w c j t hj => fresh_free w s c j t hj)
  go_enter Tryz.func257, Tryz.ntmps257
  go_wp2_with fail
  refine (rev4 _ _ ((nums s).getD 0 0) ((nums s).getD 1 0) ((nums s).getD 2 0) ((nums s).getD 3 0) _ (hfb.out _ _ _ _ _ (by omega)) (hfb.out _ _ _ _ _ (by omega)) (hfb.out _ _ _ _ _ (by omega)) (hfb.out _ _ _ _ _ (by omega)) (hff.out _ _ _ _ (by omega)) (hff.out _ _ _ _ (by omega)) (hff.out _ _ _ _ (by omega)) (hff.out _ _ _ _ (by omega))).mono ?_
  rintro e w1 ⟨rfl, hr, hb⟩
  have hcv2 := fun cap => run_convert_bytes_arg (P := Tryz.prog) w1 33 5 Tryz.underlying33 Tryz.underlying5 w.heap.size 0 4 cap _ rfl hr 9 Tryz.underlying9
  have Hb := Lib.hid hb
  clear hr hb
  go_wp2
  go_ret
  exact ⟨rfl, ((((Below.refl _ _).alloc (Nat.le_refl _) _).drew).trans Hb.out)⟩
end Go.Proofs.YtkbhokmnbpnlbaaGreat.Word
