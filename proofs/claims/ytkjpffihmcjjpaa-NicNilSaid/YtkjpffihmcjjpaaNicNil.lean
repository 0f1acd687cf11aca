/- The walk of aediculelaw20.NicNil. -/
import Derived.Test.YtkjpffihmcjjpaaNicSteps
namespace Go.Proofs.Ytkjpffihmcjjpaa.Ni
open Go.RowKit
set_option linter.unusedVariables false
theorem stepAt_new (w : World) (x : StepR) (t : TypeId) : StepAt (w.alloc (.cells #[.int .i64 x.dod, .int .u16 x.port, .string x.frame] t)) w.heap.size 0 0 x := by
  constructor <;> (rw [World.cell?_alloc_mark]; rfl)
set_option maxRecDepth 100000 in
set_option maxHeartbeats 2000000 in
theorem nicNil (x : StepR) (hx : x.ok) (w : World) : Calls Try.prog 4 #[.agg #[.int .i64 x.dod, .int .u16 x.port, .string x.frame]] w fun e w' => e = .returned (.bool true) ∧ Below w.heap.size w w' := by
  obtain ⟨B, hB⟩ : ∃ B, heavyB (fun _ => x) 1 = B := ⟨_, rfl⟩
  have HB := Lib.hid hB
  clear hB
  have hst := stepAt_new (w.alloc (.cells #[.int .i64 x.dod, .int .u16 x.port, .string x.frame] 30)) x 30
  rw [show (w.alloc (.cells #[.int .i64 x.dod, .int .u16 x.port, .string x.frame] 30)).heap.size = w.heap.size + 1 by simp] at hst
  have Hst := Lib.hid hst
  have H2 : Hid (Below w.heap.size w ((w.alloc (.cells #[.int .i64 x.dod, .int .u16 x.port, .string x.frame] 30)).alloc (.cells #[.int .i64 x.dod, .int .u16 x.port, .string x.frame] 30))) := by
    repeat (first | exact Below.refl _ _ | refine Below.alloc ?_ (by simp) _)
  clear hst
  cases B
  all_goals
    go_enter Try.func4, Try.ntmps4
    go_wp2_with fail
    refine (heavy (some ⟨w.heap.size + 1, 0, none⟩) 1 1 (fun _ => x) _ (fun _ => ⟨_, 0, rfl, fun i hi => by obtain rfl : i = 0 := (by omega); exact Hst.out⟩) (fun i hi => hx) (by omega)).mono ?_
    rintro e w1 ⟨rfl, rfl⟩
    rw [HB.out]
    go_wp2_with (first | (go_at_call 8; (with_reducible refine (arrive_nil _ _).mono ?_); rintro e w1 ⟨rfl, rfl⟩) | (go_at_call 15; (with_reducible refine (next_nil _ _).mono ?_); rintro e w1 ⟨rfl, rfl⟩) | (go_at_call 11; (with_reducible refine (pop_nil _ _).mono ?_); rintro e w1 ⟨rfl, rfl⟩) | (go_at_call 10; (with_reducible refine (len_nil _ _).mono ?_); rintro e w1 ⟨rfl, rfl⟩) | (go_at_call 12; (with_reducible refine (swap_nil _ _).mono ?_); rintro e w1 ⟨rfl, rfl⟩) | (go_at_call 13; (with_reducible refine (lose_nil _ _).mono ?_); rintro e w1 ⟨rfl, rfl⟩) | (go_at_call 14; (with_reducible refine (send_nil _ _).mono ?_); rintro e w1 ⟨rfl, rfl⟩) | (go_at_call 16; (with_reducible refine (sent_nil _).mono ?_); rintro e w1 ⟨rfl, rfl⟩) | (go_at_call 17; (with_reducible refine (dropped_nil _).mono ?_); rintro e w1 ⟨rfl, rfl⟩) | (go_at_call 18; (with_reducible refine (copy_nil _).mono ?_); rintro e w1 ⟨rfl, rfl⟩) | (go_at_call 6; (with_reducible refine (alive _).mono ?_); rintro e w1 ⟨rfl, hb⟩))
    go_ret
    exact ⟨rfl, below_th H2.out (by assumption)⟩
end Go.Proofs.Ytkjpffihmcjjpaa.Ni
