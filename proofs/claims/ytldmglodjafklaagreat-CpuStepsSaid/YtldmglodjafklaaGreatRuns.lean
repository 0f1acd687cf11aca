/- The walks of aediculelaw06: Heavy, Same, CpuRuns. -/
import Derived.Test.YtldmglodjafklaaGreatStepD
import Derived.Test.YtldmglodjafklaaGreatAlive06
import Derived.Test.YtldmglodjafklaaGreatSame05
namespace Go.Proofs.YtldmglodjafklaaGreat
open Go.RowKit Word
set_option linter.unusedVariables false
set_option linter.unusedSimpArgs false
namespace Cp
def heavyV (x : St) : Bool := decide ((40 : Int) < x.rn) || decide ((16 : Int) < x.pn) || decide ((200 : Int) < x.cn) || decide ((2048 : Int) < x.text.size)
set_option maxRecDepth 100000 in
theorem heavy06 (w : World) (x : St) : Calls Tryz.prog 25 #[.agg x.cells] w fun e w' => e = .returned (.bool (heavyV x)) ∧ Below w.heap.size w w' := by
  have hb : Below w.heap.size w (w.alloc (.cells x.cells 55)) := (Below.refl _ _).alloc (Nat.le_refl _) _
  obtain ⟨b0, b1, b2, b3, b4, b5, b6⟩ := (⟨heap_alloc_new w _⟩ : StBox (w.alloc (.cells x.cells 55)) w.heap.size x).cells
  have HB := Lib.hid hb
  have HE : Hid (heavyV x = (decide ((40 : Int) < x.rn) || decide ((16 : Int) < x.pn) || decide ((200 : Int) < x.cn) || decide ((2048 : Int) < x.text.size))) := Lib.hid rfl
  generalize heavyV x = E at *
  unfold St.cells at *
  cases h1 : decide ((40 : Int) < x.rn) <;> cases h2 : decide ((16 : Int) < x.pn) <;> cases h3 : decide ((200 : Int) < x.cn) <;> cases h4 : decide ((2048 : Int) < x.text.size)
  all_goals
    go_enter Tryz.func25, Tryz.ntmps25
    go_wp2
    go_ret
    exact ⟨by rw [HE.out, h1, h2, h3, h4]; rfl, HB.out⟩
def smRel (w : World) (vi : Value) (wr : World) : Prop := ∃ i : Nat, i ≤ 16 ∧ vi = .int .i64 i ∧ wr = w
set_option maxRecDepth 100000 in
theorem same06 {w : World} {cb db : Nat} {r : List Int} {pc : Int} (hc : Cpu 116 w cb r pc) (hd : Cpu 107 w db r pc) :
    Calls Tryz.prog 30 #[.pointer (some ⟨cb, 0, none⟩), .pointer (some ⟨db, 0, none⟩)] w fun e w' => e = .returned (.bool true) ∧ Below w.heap.size w w' := by
  have HC := Lib.hid hc
  have HD := Lib.hid hd
  clear hc hd
  go_enter Tryz.func30, Tryz.ntmps30
  go_wp2
  go_loopw [5] (fun vi wr => smRel w vi wr) (fun vi _ => 16 - (intOf vi).toNat)
  case atStart => exact ⟨0, by omega, by go_num, rfl⟩
  case round =>
    obtain ⟨i, hi, rfl, rfl⟩ := hrel
    by_cases hi2 : i < 16
    · have hi3 : (i : Int) < 16 := by omega
      have hr := reg_ok HC.out i hi2
      have hdc := HD.out.cellReg i hi2
      have HR := Lib.hid hr
      clear hr
      generalize rg r (i : Int) = v at *
      go_wp2_with (go_at_call 36; (with_reducible refine HR.out.mono ?_); rintro e w2 ⟨rfl, rfl⟩)
      exact ⟨⟨i + 1, by omega, by go_num, rfl⟩, by simp [intOf]; omega⟩
    · obtain rfl : i = 16 := by omega
      have hp := HD.out.cellPc
      have HPn : Hid (∀ n, Calls Tryz.prog 41 #[.pointer (some ⟨cb, 0, none⟩)] (wr.drewN n) fun e w' => e = .returned (.int .u32 pc) ∧ w' = wr.drewN n) := Lib.hid fun n => (pc_ok (HC.out.frame (w' := wr.drewN n) rfl)).mono fun e w' ⟨g1, g2⟩ => ⟨g1, g2.symm⟩
      go_wp2_with fail
      go_quiet ((go_at_call 41; exact Calls.quiet_of_same (HPn.out _)))
      go_wp2
      go_ret
      exact ⟨rfl, by first | exact below_drewN (Below.refl _ _) _ | exact (Below.refl _ _).drew | exact (below_drewN (Below.refl _ _) _).drew⟩
end Cp
end Go.Proofs.YtldmglodjafklaaGreat
