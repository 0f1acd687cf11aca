/- The walks of an environment's methods, third part: Page, Drop, Own, Put, Arg, Answer. -/
import Derived.Test.YtldmglodjafklaaGreatEnvW
namespace Go.Proofs.YtldmglodjafklaaGreat
open Go.RowKit Word
set_option linter.unusedVariables false
set_option linter.unusedSimpArgs false
namespace Ev
section
variable {w : World} {a : EAt} {E : En}
theorem reg_bad {cb : Nat} (w : World) (n : Int) (hn : n < 0 ∨ 16 ≤ n) : Calls Tryz.prog 36 #[.pointer (some ⟨cb, 0, none⟩), .int .i64 n] w fun e w' => e = .returned (.tuple #[.int .u32 0, .int .i64 2]) ∧ w = w' := by
  cases g0 : decide (n < 0) with
  | true =>
    go_enter Tryz.func36, Tryz.ntmps36
    go_wp2
    go_ret2
    exact ⟨rfl, rfl⟩
  | false =>
    have g1 : decide ((16 : Int) ≤ n) = true := decide_eq_true (by have := of_decide_eq_false g0; omega)
    go_enter Tryz.func36, Tryz.ntmps36
    go_wp2
    go_ret2
    exact ⟨rfl, rfl⟩
theorem own (h : Env w a E) : Calls Tryz.prog 19 #[.pointer (some ⟨a.eb, 0, none⟩)] w fun e w' => ∃ v, e = .returned v ∧ Sl.Lst w' v E.own ∧ (∀ b, v.ownBlock = some b → w.heap.size ≤ b) ∧ Below w.heap.size w w' := by
  obtain ⟨_, c1, _⟩ := cells h
  have HC := Lib.hid (Sl.clone h.ls h.ok.len)
  obtain ⟨lv, hlv⟩ : ∃ lv, a.lv = lv := ⟨_, rfl⟩
  rw [hlv] at c1 HC
  clear h hlv
  go_enter Tryz.func19, Tryz.ntmps19
  go_wp2_with fail
  refine HC.out.mono ?_
  rintro e w2 ⟨v, rfl, h1, h2, h3⟩
  have HP := Lib.hid (⟨h1, h2, h3⟩ : Sl.Lst w2 v E.own ∧ (∀ b, v.ownBlock = some b → w.heap.size ≤ b) ∧ Below w.heap.size w w2)
  clear h1 h2 h3
  go_wp2
  go_ret
  exact ⟨v, rfl, HP.out⟩
theorem own_nil (w : World) : Calls Tryz.prog 19 #[.pointer none] w fun e w' => e = .returned (.slice none 0 0) ∧ w = w' := by
  go_enter Tryz.func19, Tryz.ntmps19
  go_wp2
  go_ret
  exact ⟨rfl, rfl⟩
theorem arg (h : Env w a E) (n : Int) (n0 : -9223372036854775808 ≤ n) (n1 : n ≤ 9223372036854775807) : Calls Tryz.prog 22 #[.pointer (some ⟨a.eb, 0, none⟩), .int .i64 n] w fun e w' => e = .returned (.int .u32 (E.arg n)) ∧ w = w' := by
  obtain ⟨_, _, c2, _⟩ := cells h
  have HR : Hid (Calls Tryz.prog 36 #[.pointer (some ⟨a.cb, 0, none⟩), .int .i64 n] w fun e w' => ∃ y, e = .returned (.tuple #[.int .u32 (E.arg n), .int .i64 y]) ∧ w = w') := by
    unfold En.arg
    by_cases g : 0 ≤ n ∧ n < 16
    · rw [if_pos g]
      obtain ⟨m, rfl⟩ := Int.eq_ofNat_of_zero_le g.1
      exact Lib.hid ((Cp.reg_ok h.cp m (by omega)).mono fun e w' ⟨g1, g2⟩ => ⟨0, g1, g2⟩)
    · rw [if_neg g]
      exact Lib.hid ((reg_bad w n (by omega)).mono fun e w' ⟨g1, g2⟩ => ⟨2, g1, g2⟩)
  generalize E.arg n = v at *
  clear h
  go_enter Tryz.func22, Tryz.ntmps22
  go_wp2_with fail
  refine HR.out.mono ?_
  rintro e w2 ⟨y, rfl, rfl⟩
  go_wp2
  go_ret
  exact ⟨rfl, rfl⟩
theorem arg_nil (n : Int) (w : World) : Calls Tryz.prog 22 #[.pointer none, .int .i64 n] w fun e w' => e = .returned (.int .u32 0) ∧ w = w' := by
  go_enter Tryz.func22, Tryz.ntmps22
  go_wp2
  go_ret
  exact ⟨rfl, rfl⟩
theorem answer (h : Env w a E) (v y : Int) (v0 : 0 ≤ v) (v1 : v ≤ 4294967295) (y0 : 0 ≤ y) (y1 : y ≤ 4294967295) : Calls Tryz.prog 23 #[.pointer (some ⟨a.eb, 0, none⟩), .int .u32 v, .int .u32 y] w fun e w' => e = .returned (.int .i64 0) ∧ EStep w w' a E a (E.answer v y) := by
  have H := Lib.hid h
  have hc := Cp.setReg_ok h.cp 1 (by omega) v v0 v1
  obtain ⟨_, _, c2, _⟩ := cells h
  have HC := Lib.hid hc
  clear h hc
  go_enter Tryz.func23, Tryz.ntmps23
  go_wp2_with fail
  refine HC.out.mono ?_
  rintro e w2 ⟨rfl, hc2, hm2⟩
  have hs2 := EStep.regs H.out hc2 hm2
  have HS2 := Lib.hid hs2
  have HC2 := Lib.hid (Cp.setReg_ok hs2.env.cp 2 (by omega) y y0 y1)
  obtain ⟨_, _, d2, _⟩ := cells hs2.env
  clear hc2 hm2 hs2
  go_wp2_with fail
  refine HC2.out.mono ?_
  rintro e w3 ⟨rfl, hc3, hm3⟩
  have HS3 := Lib.hid (HS2.out.trans (EStep.regs HS2.out.env hc3 hm3))
  clear hc3 hm3
  go_wp2
  go_ret
  exact ⟨rfl, HS3.out⟩
theorem answer_nil (v y : Int) (w : World) : Calls Tryz.prog 23 #[.pointer none, .int .u32 v, .int .u32 y] w fun e w' => e = .returned (.int .i64 1) ∧ w = w' := by
  go_enter Tryz.func23, Tryz.ntmps23
  go_wp2
  go_ret
  exact ⟨rfl, rfl⟩
theorem put (h : Env w a E) (s : ByteArray) (hs : s.size ≤ 140737488355328) : Calls Tryz.prog 20 #[.pointer (some ⟨a.eb, 0, none⟩), .string s] w fun e w' => e = .returned (.int .i64 (E.putE s)) ∧ EStep w w' a E a (E.put s) := by
  have HR := Lib.hid (ready h)
  obtain ⟨_, _, _, _, _, _, _, c7⟩ := cells h
  have ht := h.ok.text
  by_cases hk : E.kind = 2
  · have e : E.redE = 0 := by unfold En.redE; rw [if_neg (by omega)]
    rw [e] at HR
    by_cases hl : 4096 < E.text.size + s.size
    · have e2 : E.putE s = 4 := by unfold En.putE; rw [if_neg (by omega), if_pos hl]
      have e3 : E.put s = E := by unfold En.put; rw [e2, if_pos (by omega)]
      have HS := Lib.hid (EStep.refl h)
      rw [e2, e3]
      have hlb : (4096 : Int) < E.text.size + s.size := by omega
      clear e e2 e3 hk h
      go_enter Tryz.func20, Tryz.ntmps20
      go_wp2_with fail
      refine HR.out.mono ?_
      rintro e w2 ⟨rfl, rfl⟩
      go_wp2
      go_ret
      exact ⟨rfl, HS.out⟩
    · have e2 : E.putE s = 0 := by unfold En.putE; rw [if_neg (by omega), if_neg hl]
      have e3 : E.put s = { E with text := E.text ++ s } := by unfold En.put; rw [e2, if_neg (by omega)]
      have HS := Lib.hid (EStep.setText h (E.text ++ s) (by rw [ByteArray.size_append]; omega))
      have f7 := h.free 7
      rw [e2, e3]
      have hlb : ¬ (4096 : Int) < E.text.size + s.size := by omega
      clear e e2 e3 hk h
      go_enter Tryz.func20, Tryz.ntmps20
      go_wp2_with fail
      refine HR.out.mono ?_
      rintro e w2 ⟨rfl, rfl⟩
      go_wp2
      go_ret
      exact ⟨rfl, HS.out⟩
  · have e : E.redE = 3 := by unfold En.redE; rw [if_pos hk]
    have e2 : E.putE s = 3 := by unfold En.putE; rw [if_pos hk]
    have e3 : E.put s = E := by unfold En.put; rw [e2, if_pos (by omega)]
    have HS := Lib.hid (EStep.refl h)
    rw [e] at HR
    rw [e2, e3]
    clear e e2 e3 hk h
    go_enter Tryz.func20, Tryz.ntmps20
    go_wp2_with fail
    refine HR.out.mono ?_
    rintro e w2 ⟨rfl, rfl⟩
    go_wp2
    go_ret
    exact ⟨rfl, HS.out⟩
theorem put_nil (s : ByteArray) (w : World) : Calls Tryz.prog 20 #[.pointer none, .string s] w fun e w' => e = .returned (.int .i64 1) ∧ w = w' := by
  have HR := Lib.hid (ready_nil w)
  go_enter Tryz.func20, Tryz.ntmps20
  go_wp2_with fail
  refine HR.out.mono ?_
  rintro e w2 ⟨rfl, rfl⟩
  go_wp2
  go_ret
  exact ⟨rfl, rfl⟩
end
end Ev
end Go.Proofs.YtldmglodjafklaaGreat
