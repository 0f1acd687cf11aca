/- What no cpu answers, and a cpu in no space. -/
import Derived.Test.YtldmglodjafklaaCpuW
namespace Go.Proofs.Ytldmglodjafklaa
open Go.RowKit Word
set_option linter.unusedVariables false
namespace Cp
section
variable {w : World} {cb sb mb : Nat} {A : List Pg} {r : List Int} {pc : Int}
theorem step_nil (m : Value) (w : World) : Calls Try.prog 17 #[.pointer none, m] w fun e w' => e = .returned (stopV 2 0 1) ∧ Below w.heap.size w w' := by
  go_enter Try.func17, Try.ntmps17
  go_wp2
  refine bodyPost_ret (v := stopV 2 0 1) (by simp [results, Try.results17, go_sem, stopV, *]) rfl ⟨rfl, (Below.refl _ _).alloc (Nat.le_refl _) _⟩
theorem step_nospace (cb : Nat) (w : World) : Calls Try.prog 17 #[.pointer (some ⟨cb, 0, none⟩), .pointer none] w fun e w' => e = .returned (stopV 2 0 1) ∧ Below w.heap.size w w' := by
  go_enter Try.func17, Try.ntmps17
  go_wp2
  refine bodyPost_ret (v := stopV 2 0 1) (by simp [results, Try.results17, go_sem, stopV, *]) rfl ⟨rfl, (Below.refl _ _).alloc (Nat.le_refl _) _⟩
theorem copy_nil (w : World) : Calls Try.prog 23 #[.pointer none] w fun e w' => e = .returned (.pointer none) ∧ w = w' := by
  go_enter Try.func23, Try.ntmps23
  go_wp2
  go_ret
  exact ⟨rfl, rfl⟩
theorem setPc_nil (v : Int) (w : World) : Calls Try.prog 22 #[.pointer none, .int .u32 v] w fun e w' => e = .returned (.int .i64 1) ∧ w = w' := by
  go_enter Try.func22, Try.ntmps22
  go_wp2
  go_ret
  exact ⟨rfl, rfl⟩
theorem setPc_ok (h : Cpu 83 w cb r pc) (v : Int) (v0 : 0 ≤ v) (v1 : v ≤ 4294967295) :
    Calls Try.prog 22 #[.pointer (some ⟨cb, 0, none⟩), .int .u32 v] w fun e w' => e = .returned (.int .i64 0) ∧ Cpu 83 w' cb r v ∧ Mod (fun k => k = cb) w w' := by
  have hc := h.cellPc
  have hf := h.thaw 16
  have H := Lib.hid (h.setPc v v0 v1)
  clear h
  go_enter Try.func22, Try.ntmps22
  go_wp2
  go_ret
  exact ⟨rfl, H.out, Mod.setCell (F := fun k => k = cb) (Mod.refl _ _) _ (.inl rfl) _⟩
set_option maxRecDepth 100000 in
theorem run_nil (m : Value) (w : World) : Calls Try.prog 18 #[.pointer none, m, .int .i64 5] w fun e w' => e = .returned (.tuple #[stopV 2 0 1, .int .i64 0]) ∧ Below w.heap.size w w' := by
  have hb : Below w.heap.size w (w.alloc (.cells #[.int .u8 0, .int .u32 0, .int .i64 0] 40)) := (Below.refl _ _).alloc (Nat.le_refl _) _
  have HB := Lib.hid hb
  have HR := Lib.hid (⟨heap_alloc_new w _⟩ : RsBox (w.alloc (.cells #[.int .u8 0, .int .u32 0, .int .i64 0] 40)) w.heap.size)
  clear hb
  go_enter Try.func18, Try.ntmps18
  go_wp2
  refine wp_loop_rounds 1 ?_
  rw [rounds_succ]
  go_wp2_with fail
  refine (step_nil m _).mono ?_
  rintro e w1 ⟨rfl, hb1⟩
  have hr1 := HR.out.frame (hb1.block _ (by simp))
  obtain ⟨c0, c1, c2, f0, f1, f2⟩ := hr1.cells
  have HB1 := Lib.hid (below_th HB.out hb1)
  have HR1 := Lib.hid hr1
  clear hb1 hr1
  unfold stopV
  go_wp2
  obtain ⟨v0, v1, v2⟩ := cells3 (set3_blk (set3_blk HR1.out.blk (.int .u8 2) (.int .u32 0) (.int .i64 1)) (.int .u8 2) (.int .u32 0) (.int .i64 1))
  clear c0 c1 c2 f0 f1 f2
  refine bodyPost_ret (v := .tuple #[.agg #[.int .u8 2, .int .u32 0, .int .i64 1], .int .i64 0]) (by simp [results, Try.results18, go_sem, *]) rfl ⟨rfl, below_set3 (below_set3 HB1.out (Nat.le_refl _) _ _ _) (Nat.le_refl _) _ _ _⟩
end
end Cp
end Go.Proofs.Ytldmglodjafklaa
