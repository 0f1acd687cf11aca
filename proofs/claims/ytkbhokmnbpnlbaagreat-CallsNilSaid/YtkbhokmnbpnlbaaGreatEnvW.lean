/- The walks of an environment's methods. -/
import Derived.Test.YtkbhokmnbpnlbaaGreatEnv
import Derived.Test.YtkbhokmnbpnlbaaGreatCopy6
namespace Go.Proofs.YtkbhokmnbpnlbaaGreat
open Go.RowKit Word
set_option linter.unusedVariables false
set_option linter.unusedSimpArgs false
namespace Ev
section
variable {w : World} {a : EAt} {E : En}
theorem cells (h : Env w a E) : w.cell? ⟨a.eb, 0, none⟩ = some (.pointer (some ⟨a.sb, 0, none⟩)) ∧ w.cell? ⟨a.eb, 1, none⟩ = some a.lv ∧ w.cell? ⟨a.eb, 2, none⟩ = some (.pointer (some ⟨a.cb, 0, none⟩)) ∧ w.cell? ⟨a.eb, 3, none⟩ = some (.int .i64 E.num) ∧ w.cell? ⟨a.eb, 4, none⟩ = some (.int .u8 E.kind) ∧ w.cell? ⟨a.eb, 5, none⟩ = some (.int .u32 E.code) ∧ w.cell? ⟨a.eb, 6, none⟩ = some (.int .i64 E.why) ∧ w.cell? ⟨a.eb, 7, none⟩ = some (.string E.text) :=
  ⟨h.cell 0 _ rfl, h.cell 1 _ rfl, h.cell 2 _ rfl, h.cell 3 _ rfl, h.cell 4 _ rfl, h.cell 5 _ rfl, h.cell 6 _ rfl, h.cell 7 _ rfl⟩
theorem ready (h : Env w a E) : Calls Tryz.prog 69 #[.pointer (some ⟨a.eb, 0, none⟩)] w fun e w' => e = .returned (.int .i64 E.redE) ∧ w = w' := by
  obtain ⟨_, _, _, _, c4, _, _, _⟩ := cells h
  clear h
  by_cases hk : E.kind = 2
  · have e : E.redE = 0 := by unfold En.redE; rw [if_neg (by omega)]
    rw [e]
    rw [hk] at c4
    clear e
    go_enter Tryz.func69, Tryz.ntmps69
    go_wp2
    go_ret
    exact ⟨rfl, rfl⟩
  · have e : E.redE = 3 := by unfold En.redE; rw [if_pos hk]
    rw [e]
    have hb : (E.kind != 2) = true := bne_iff_ne.2 hk
    go_enter Tryz.func69, Tryz.ntmps69
    go_wp2
    go_ret
    exact ⟨rfl, rfl⟩
theorem ready_nil (w : World) : Calls Tryz.prog 69 #[.pointer none] w fun e w' => e = .returned (.int .i64 1) ∧ w = w' := by
  go_enter Tryz.func69, Tryz.ntmps69
  go_wp2
  go_ret
  exact ⟨rfl, rfl⟩
theorem num (h : Env w a E) : Calls Tryz.prog 81 #[.pointer (some ⟨a.eb, 0, none⟩)] w fun e w' => e = .returned (.int .i64 E.num) ∧ w = w' := by
  obtain ⟨_, _, _, c3, _, _, _, _⟩ := cells h
  clear h
  go_enter Tryz.func81, Tryz.ntmps81
  go_wp2
  go_ret
  exact ⟨rfl, rfl⟩
theorem num_nil (w : World) : Calls Tryz.prog 81 #[.pointer none] w fun e w' => e = .returned (.int .i64 0) ∧ w = w' := by
  go_enter Tryz.func81, Tryz.ntmps81
  go_wp2
  go_ret
  exact ⟨rfl, rfl⟩
theorem space (h : Env w a E) : Calls Tryz.prog 23 #[.pointer (some ⟨a.eb, 0, none⟩)] w fun e w' => e = .returned (.pointer (some ⟨a.sb, 0, none⟩)) ∧ w = w' := by
  obtain ⟨c0, _⟩ := cells h
  clear h
  go_enter Tryz.func23, Tryz.ntmps23
  go_wp2
  go_ret
  exact ⟨rfl, rfl⟩
theorem space_nil (w : World) : Calls Tryz.prog 23 #[.pointer none] w fun e w' => e = .returned (.pointer none) ∧ w = w' := by
  go_enter Tryz.func23, Tryz.ntmps23
  go_wp2
  go_ret
  exact ⟨rfl, rfl⟩
theorem cpu (h : Env w a E) : Calls Tryz.prog 24 #[.pointer (some ⟨a.eb, 0, none⟩)] w fun e w' => e = .returned (.pointer (some ⟨a.cb, 0, none⟩)) ∧ w = w' := by
  obtain ⟨_, _, c2, _⟩ := cells h
  clear h
  go_enter Tryz.func24, Tryz.ntmps24
  go_wp2
  go_ret
  exact ⟨rfl, rfl⟩
theorem cpu_nil (w : World) : Calls Tryz.prog 24 #[.pointer none] w fun e w' => e = .returned (.pointer none) ∧ w = w' := by
  go_enter Tryz.func24, Tryz.ntmps24
  go_wp2
  go_ret
  exact ⟨rfl, rfl⟩
theorem console (h : Env w a E) : Calls Tryz.prog 48 #[.pointer (some ⟨a.eb, 0, none⟩)] w fun e w' => e = .returned (.string E.text) ∧ w = w' := by
  obtain ⟨_, _, _, _, _, _, _, c7⟩ := cells h
  clear h
  go_enter Tryz.func48, Tryz.ntmps48
  go_wp2
  go_ret
  exact ⟨rfl, rfl⟩
theorem console_nil (w : World) : Calls Tryz.prog 48 #[.pointer none] w fun e w' => e = .returned (.string ByteArray.empty) ∧ w = w' := by
  go_enter Tryz.func48, Tryz.ntmps48
  go_wp2
  go_ret
  exact ⟨rfl, rfl⟩
theorem state (h : Env w a E) : Calls Tryz.prog 31 #[.pointer (some ⟨a.eb, 0, none⟩)] w fun e w' => e = .returned (.agg #[.int .u8 E.kind, .int .u32 E.code, .int .i64 E.why]) ∧ Below w.heap.size w w' := by
  have hb : Below w.heap.size w (w.alloc (.cells #[.int .u8 0, .int .u32 0, .int .i64 0] 75)) := (Below.refl _ _).alloc (Nat.le_refl _) _
  obtain ⟨_, _, _, _, c4, c5, c6, _⟩ := cells (h.below hb)
  have HF : Hid (Below w.heap.size w (w.alloc (.cells #[.int .u8 E.kind, .int .u32 E.code, .int .i64 E.why] 75))) := Lib.hid ((Below.refl _ _).alloc (Nat.le_refl _) _)
  clear h hb
  go_enter Tryz.func31, Tryz.ntmps31
  go_wp2
  refine bodyPost_ret (v := .agg #[.int .u8 E.kind, .int .u32 E.code, .int .i64 E.why]) (by simp [results, Tryz.results31, go_sem, *]) rfl ?_
  exact ⟨rfl, HF.out⟩
theorem state_nil (w : World) : Calls Tryz.prog 31 #[.pointer none] w fun e w' => e = .returned (.agg #[.int .u8 0, .int .u32 0, .int .i64 0]) ∧ Below w.heap.size w w' := by
  have HF : Hid (Below w.heap.size w (w.alloc (.cells #[.int .u8 0, .int .u32 0, .int .i64 0] 75))) := Lib.hid ((Below.refl _ _).alloc (Nat.le_refl _) _)
  go_enter Tryz.func31, Tryz.ntmps31
  go_wp2
  refine bodyPost_ret (v := .agg #[.int .u8 0, .int .u32 0, .int .i64 0]) (by simp [results, Tryz.results31, go_sem, *]) rfl ?_
  exact ⟨rfl, HF.out⟩
theorem exit (h : Env w a E) (c : Int) : Calls Tryz.prog 29 #[.pointer (some ⟨a.eb, 0, none⟩), .int .u32 c] w fun e w' => e = .returned (.int .i64 E.redE) ∧ EStep w w' a E a (E.exit c) := by
  have HR := Lib.hid (ready h)
  by_cases hk : E.kind = 2
  · have e : E.redE = 0 := by unfold En.redE; rw [if_neg (by omega)]
    have e2 : E.exit c = { E with kind := 3, code := c, why := 0 } := by unfold En.exit; rw [if_neg (by omega)]
    have HS := Lib.hid (EStep.setState h 3 c 0)
    obtain ⟨_, _, _, _, c4, c5, c6, _⟩ := cells h
    have f4 := h.free 4
    have f5 := h.free 5
    have f6 := h.free 6
    rw [e] at HR ⊢
    rw [e2]
    clear e e2 hk h
    go_enter Tryz.func29, Tryz.ntmps29
    go_wp2_with fail
    refine HR.out.mono ?_
    rintro e w2 ⟨rfl, rfl⟩
    go_wp2
    go_ret
    exact ⟨rfl, HS.out⟩
  · have e : E.redE = 3 := by unfold En.redE; rw [if_pos hk]
    have e2 : E.exit c = E := by unfold En.exit; rw [if_pos hk]
    have HS := Lib.hid (EStep.refl h)
    rw [e] at HR ⊢
    rw [e2]
    clear e e2 hk h
    go_enter Tryz.func29, Tryz.ntmps29
    go_wp2_with fail
    refine HR.out.mono ?_
    rintro e w2 ⟨rfl, rfl⟩
    go_wp2
    go_ret
    exact ⟨rfl, HS.out⟩
theorem exit_nil (c : Int) (w : World) : Calls Tryz.prog 29 #[.pointer none, .int .u32 c] w fun e w' => e = .returned (.int .i64 1) ∧ w = w' := by
  have HR := Lib.hid (ready_nil w)
  go_enter Tryz.func29, Tryz.ntmps29
  go_wp2_with fail
  refine HR.out.mono ?_
  rintro e w2 ⟨rfl, rfl⟩
  go_wp2
  go_ret
  exact ⟨rfl, rfl⟩
theorem may (h : Env w a E) (x : Int) (x0 : 0 ≤ x) (x1 : x ≤ 4294967295) : Calls Tryz.prog 71 #[.pointer (some ⟨a.eb, 0, none⟩), .int .u32 x] w fun e w' => e = .returned (.int .i64 (E.mayE x)) ∧ Below w.heap.size w w' := by
  have HR := Lib.hid fun w' (hb : Below w.heap.size w w') => ready (h.below hb)
  have HB := Lib.hid (Below.refl w.heap.size w)
  by_cases hk : E.kind = 2
  · have e : E.redE = 0 := by unfold En.redE; rw [if_neg (by omega)]
    have e2 : E.mayE x = if En.mayP x = false then 2 else 0 := by unfold En.mayE; rw [if_neg (by omega)]
    rw [e] at HR
    rw [e2]
    clear e e2 hk h
    by_cases g1 : x % 256 = 0
    · by_cases g2 : x < 256
      · have e : En.mayP x = false := by unfold En.mayP; simp [g1]; omega
        rw [if_pos e]
        clear e
        go_enter Tryz.func71, Tryz.ntmps71
        go_wp2_with fail
        refine (HR.out _ HB.out).mono ?_
        rintro e w2 ⟨rfl, rfl⟩
        go_wp2
        go_ret
        exact ⟨rfl, HB.out⟩
      · by_cases g3 : 1048576 ≤ x
        · have e : En.mayP x = false := by unfold En.mayP; simp [g1]; omega
          rw [if_pos e]
          clear e
          go_enter Tryz.func71, Tryz.ntmps71
          go_wp2_with fail
          refine (HR.out _ HB.out).mono ?_
          rintro e w2 ⟨rfl, rfl⟩
          go_wp2
          go_ret
          exact ⟨rfl, HB.out⟩
        · have e : ¬ En.mayP x = false := by unfold En.mayP; simp [g1]; omega
          rw [if_neg e]
          clear e
          go_enter Tryz.func71, Tryz.ntmps71
          go_wp2_with fail
          refine (HR.out _ HB.out).mono ?_
          rintro e w2 ⟨rfl, rfl⟩
          go_wp2
          go_ret
          exact ⟨rfl, HB.out⟩
    · have e : En.mayP x = false := by unfold En.mayP; simp [g1]
      rw [if_pos e]
      have g1b : (x % 256 != 0) = true := bne_iff_ne.2 g1
      clear e
      go_enter Tryz.func71, Tryz.ntmps71
      go_wp2_with fail
      refine (HR.out _ HB.out).mono ?_
      rintro e w2 ⟨rfl, rfl⟩
      go_wp2
      go_ret
      exact ⟨rfl, HB.out⟩
  · have e : E.redE = 3 := by unfold En.redE; rw [if_pos hk]
    have e2 : E.mayE x = 3 := by unfold En.mayE; rw [if_pos hk]
    rw [e] at HR
    rw [e2]
    clear e e2 hk h
    go_enter Tryz.func71, Tryz.ntmps71
    go_wp2_with fail
    refine (HR.out _ HB.out).mono ?_
    rintro e w2 ⟨rfl, rfl⟩
    go_wp2
    go_ret
    exact ⟨rfl, HB.out⟩
end
end Ev
end Go.Proofs.YtkbhokmnbpnlbaaGreat
