/- What no space answers; the walk of aediculelaw05.SpaceNil. -/
import Derived.Test.YtldmglodjafklaaSteps
import Derived.Test.YtldmglodjafklaaSpcAlive
namespace Go.Proofs.Ytldmglodjafklaa.Sp
open Go.RowKit
set_option linter.unusedVariables false
theorem nilLook (a n : Int) (w : World) : Calls Try.prog 11 #[.pointer none, .int .u32 a, .int .i64 n] w fun e w' => e = .returned (.tuple #[.string ByteArray.empty, .int .i64 1]) ∧ w = w' := by
  go_enter Try.func11, Try.ntmps11
  go_wp2
  go_ret2
  exact ⟨rfl, rfl⟩
theorem nilRead (a n : Int) (w : World) : Calls Try.prog 10 #[.pointer none, .int .u32 a, .int .i64 n] w fun e w' => e = .returned (.tuple #[.string ByteArray.empty, .int .i64 1]) ∧ w = w' := by
  go_enter Try.func10, Try.ntmps10
  go_wp2
  go_ret2
  exact ⟨rfl, rfl⟩
theorem nilFetch (a : Int) (w : World) : Calls Try.prog 12 #[.pointer none, .int .u32 a] w fun e w' => e = .returned (.tuple #[.string ByteArray.empty, .int .i64 1]) ∧ w = w' := by
  go_enter Try.func12, Try.ntmps12
  go_wp2
  go_ret2
  exact ⟨rfl, rfl⟩
theorem nilPerm (a : Int) (w : World) : Calls Try.prog 29 #[.pointer none, .int .u32 a] w fun e w' => e = .returned (.tuple #[.int .u8 0, .bool false]) ∧ w = w' := by
  go_enter Try.func29, Try.ntmps29
  go_wp2
  go_ret2
  exact ⟨rfl, rfl⟩
theorem nilMap (a p : Int) (w : World) : Calls Try.prog 9 #[.pointer none, .int .u32 a, .int .u8 p] w fun e w' => e = .returned (.int .i64 1) ∧ w = w' := by
  go_enter Try.func9, Try.ntmps9
  go_wp2
  go_ret
  exact ⟨rfl, rfl⟩
theorem nilUnmap (a : Int) (w : World) : Calls Try.prog 35 #[.pointer none, .int .u32 a] w fun e w' => e = .returned (.int .i64 1) ∧ w = w' := by
  go_enter Try.func35, Try.ntmps35
  go_wp2
  go_ret
  exact ⟨rfl, rfl⟩
theorem nilSet (a : Int) (s : ByteArray) (w : World) : Calls Try.prog 32 #[.pointer none, .int .u32 a, .string s] w fun e w' => e = .returned (.int .i64 1) ∧ w = w' := by
  go_enter Try.func32, Try.ntmps32
  go_wp2
  go_ret
  exact ⟨rfl, rfl⟩
theorem nilWrite (a : Int) (s : ByteArray) (w : World) : Calls Try.prog 13 #[.pointer none, .int .u32 a, .string s] w fun e w' => e = .returned (.int .i64 1) ∧ w = w' := by
  go_enter Try.func13, Try.ntmps13
  go_wp2
  go_ret
  exact ⟨rfl, rfl⟩
theorem nilPages  (w : World) : Calls Try.prog 33 #[.pointer none] w fun e w' => e = .returned (.slice none 0 0) ∧ w = w' := by
  go_enter Try.func33, Try.ntmps33
  go_wp2
  go_ret
  exact ⟨rfl, rfl⟩
theorem nilCopy  (w : World) : Calls Try.prog 27 #[.pointer none] w fun e w' => e = .returned (.pointer none) ∧ w = w' := by
  go_enter Try.func27, Try.ntmps27
  go_wp2
  go_ret
  exact ⟨rfl, rfl⟩
theorem stepAt_new (w : World) (x : StepR) (t : TypeId) : StepAt (w.alloc (.cells #[.int .i64 x.dod, .int .u32 x.addr, .int .i64 x.n, .string x.text] t)) w.heap.size 0 0 x := by
  constructor <;> (rw [World.cell?_alloc_mark]; rfl)
set_option maxRecDepth 100000 in
set_option maxHeartbeats 2000000 in
theorem spaceNil (x : StepR) (hx : x.ok) (w : World) : Calls Try.prog 7 #[.agg #[.int .i64 x.dod, .int .u32 x.addr, .int .i64 x.n, .string x.text]] w fun e w' => e = .returned (.bool true) ∧ Below w.heap.size w w' := by
  obtain ⟨B, hB⟩ : ∃ B, heavyB (fun _ => x) 1 = B := ⟨_, rfl⟩
  have HB := Lib.hid hB
  clear hB
  have hst := stepAt_new (w.alloc (.cells #[.int .i64 x.dod, .int .u32 x.addr, .int .i64 x.n, .string x.text] 58)) x 58
  rw [show (w.alloc (.cells #[.int .i64 x.dod, .int .u32 x.addr, .int .i64 x.n, .string x.text] 58)).heap.size = w.heap.size + 1 by simp] at hst
  have Hst := Lib.hid hst
  have H2 : Hid (Below w.heap.size w ((w.alloc (.cells #[.int .i64 x.dod, .int .u32 x.addr, .int .i64 x.n, .string x.text] 58)).alloc (.cells #[.int .i64 x.dod, .int .u32 x.addr, .int .i64 x.n, .string x.text] 58))) := by
    repeat (first | exact Below.refl _ _ | refine Below.alloc ?_ (by simp) _)
  clear hst
  cases B
  all_goals
    go_enter Try.func7, Try.ntmps7
    go_wp2_with fail
    refine (heavy (w.heap.size + 1) 0 1 1 (fun _ => x) _ (fun i hi => by obtain rfl : i = 0 := (by omega); exact Hst.out) (fun i hi => hx) (by omega)).mono ?_
    rintro e w1 ⟨rfl, rfl⟩
    rw [HB.out]
    go_wp2_with (first | (go_at_call 11; (with_reducible refine (nilLook _ _ _).mono ?_); rintro e w1 ⟨rfl, rfl⟩) | (go_at_call 10; (with_reducible refine (nilRead _ _ _).mono ?_); rintro e w1 ⟨rfl, rfl⟩) | (go_at_call 12; (with_reducible refine (nilFetch _ _).mono ?_); rintro e w1 ⟨rfl, rfl⟩) | (go_at_call 29; (with_reducible refine (nilPerm _ _).mono ?_); rintro e w1 ⟨rfl, rfl⟩) | (go_at_call 9; (with_reducible refine (nilMap _ _ _).mono ?_); rintro e w1 ⟨rfl, rfl⟩) | (go_at_call 35; (with_reducible refine (nilUnmap _ _).mono ?_); rintro e w1 ⟨rfl, rfl⟩) | (go_at_call 32; (with_reducible refine (nilSet _ _ _).mono ?_); rintro e w1 ⟨rfl, rfl⟩) | (go_at_call 13; (with_reducible refine (nilWrite _ _ _).mono ?_); rintro e w1 ⟨rfl, rfl⟩) | (go_at_call 33; (with_reducible refine (nilPages _).mono ?_); rintro e w1 ⟨rfl, rfl⟩) | (go_at_call 27; (with_reducible refine (nilCopy _).mono ?_); rintro e w1 ⟨rfl, rfl⟩) | (go_at_call 15; (with_reducible refine (alive _).mono ?_); rintro e w1 ⟨rfl, hb⟩))
    go_ret
    exact ⟨rfl, below_th H2.out (by assumption)⟩
end Go.Proofs.Ytldmglodjafklaa.Sp
