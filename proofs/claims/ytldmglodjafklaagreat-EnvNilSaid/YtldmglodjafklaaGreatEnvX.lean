/- The walks of an environment's methods, second part. -/
import Derived.Test.YtldmglodjafklaaGreatEnvW
import Derived.Test.YtldmglodjafklaaGreatAloneP
import Derived.Deep.QuietTactic
import Derived.BigQuiet
namespace Go.Proofs.YtldmglodjafklaaGreat
open Go.RowKit Word
set_option linter.unusedVariables false
set_option linter.unusedSimpArgs false
namespace Ev
section
variable {w : World} {a : EAt} {E : En}
theorem addrs_set (A : List Pg) (x v : Int) : (setByte A x v).map Pg.addr = A.map Pg.addr := by
  unfold setByte
  rw [List.map_map]
  exact List.map_congr_left fun p _ => setPg_addr x v p
theorem addrs_putN (A : List Pg) (addr : Int) (xs : List Int) : ∀ k, (putN A addr xs k).map Pg.addr = A.map Pg.addr
  | 0 => rfl
  | k + 1 => (addrs_set _ _ _).trans (addrs_putN A addr xs k)
theorem addrs_stp {A : List Pg} {r : List Int} (hr : Cp.Regs r) (pc : Int) : (Cp.stp A r pc).A.map Pg.addr = A.map Pg.addr := by
  cases Cp.chg_stp (A := A) hr pc with
  | none hA => rw [hA]
  | reg _ hA => rw [hA]
  | mem _ _ at' _ s _ _ hA => rw [hA]; exact addrs_putN _ _ _ _
set_option maxRecDepth 100000 in
set_option maxHeartbeats 4000000 in
theorem step (h : Env w a E) : Calls Tryz.prog 10 #[.pointer (some ⟨a.eb, 0, none⟩)] w fun e w' => e = .returned (.tuple #[.agg #[.int .u8 E.stop.1, .int .u32 E.stop.2.1, .int .i64 E.stop.2.2], .int .i64 E.redE]) ∧ EStep w w' a E a E.step := by
  have hbx : Below w.heap.size w (w.alloc (.cells #[.int .u8 0, .int .u32 0, .int .i64 0] 29)) := (Below.refl _ _).alloc (Nat.le_refl _) _
  have HR := Lib.hid (ready (h.below hbx))
  by_cases hk : E.kind = 2
  · have e : E.redE = 0 := by unfold En.redE; rw [if_neg (by omega)]
    rw [e] at HR ⊢
    have e1 : E.stop = ((Cp.stp E.A E.r E.pc).kind, (Cp.stp E.A E.r E.pc).num, (Cp.stp E.A E.r E.pc).why) := by unfold En.stop; rw [if_neg (by omega)]
    have hrs : Hid ((w.alloc (.cells #[.int .u8 0, .int .u32 0, .int .i64 0] 29)).heap[w.heap.size]? = some (.cells #[.int .u8 0, .int .u32 0, .int .i64 0] 29 (0, 0))) := Lib.hid (heap_alloc_new w _)
    have HW := Lib.hid (h.below hbx)
    have HWs := Lib.hid (EStep.of_below h hbx)
    have Hsz : Hid ((w.alloc (.cells #[.int .u8 0, .int .u32 0, .int .i64 0] 29)).heap.size = w.heap.size + 1) := Lib.hid (by simp)
    have HL : Hid (∀ k, a.foot E.A k → k < w.heap.size) := Lib.hid h.lt
    have ea := addrs_stp (A := E.A) h.cp.regs E.pc
    have eb := Cp.blks_stp E.A E.r E.pc
    have e2 : E.step = if (Cp.stp E.A E.r E.pc).kind = 2 then { E with A := (Cp.stp E.A E.r E.pc).A, r := (Cp.stp E.A E.r E.pc).r, pc := (Cp.stp E.A E.r E.pc).pc, kind := 4, code := 0, why := (Cp.stp E.A E.r E.pc).why } else { E with A := (Cp.stp E.A E.r E.pc).A, r := (Cp.stp E.A E.r E.pc).r, pc := (Cp.stp E.A E.r E.pc).pc } := by unfold En.step; rw [if_neg (by omega)]
    have hst : ∀ V, Env V a E → Calls Tryz.prog 28 #[.pointer (some ⟨a.cb, 0, none⟩), .pointer (some ⟨a.sb, 0, none⟩)] V (fun e w' => e = .returned (.agg #[.int .u8 (Cp.stp E.A E.r E.pc).kind, .int .u32 (Cp.stp E.A E.r E.pc).num, .int .i64 (Cp.stp E.A E.r E.pc).why]) ∧ Cpu 116 w' a.cb (Cp.stp E.A E.r E.pc).r (Cp.stp E.A E.r E.pc).pc ∧ Spc w' a.sb a.mb (Cp.stp E.A E.r E.pc).A ∧ Mod (fun k => k = a.cb ∨ Sp.pgBlk E.A k) V w') := fun V hV => Cp.step hV.cp hV.sp hV.cs
    rw [e1, e2]
    clear e e1 e2
    generalize Cp.stp E.A E.r E.pc = o at *
    obtain ⟨kind, num, why, r2, pc2, A2⟩ := o
    simp only at ea eb hst ⊢
    have HSt := Lib.hid hst
    have HEa := Lib.hid ea
    have HEb := Lib.hid eb
    clear hst ea eb hbx hk h
    go_enter Tryz.func10, Tryz.ntmps10
    go_wp2_with fail
    refine HR.out.mono ?_
    rintro e w2 ⟨rfl, rfl⟩
    clear HR
    generalize hWW : w.alloc (.cells #[.int .u8 0, .int .u32 0, .int .i64 0] 29) = W at *
    have HHW := Lib.hid hWW
    clear hWW
    obtain ⟨c0, _, c2, _, _, _, _, _⟩ := cells HW.out
    have cA := fun o => cells (HW.out.below ((Below.refl _ W).alloc (Nat.le_refl _) o))
    have cA0 := fun o => (cA o).1
    have cA2 := fun o => (cA o).2.2.1
    have HBd : Hid (∀ o, Below W.heap.size W (W.alloc o)) := Lib.hid fun o => (Below.refl _ _).alloc (Nat.le_refl _) o
    have HBx : Hid (∀ V V' : World, V.heap[W.heap.size]? = some (.cells #[.int .u8 0, .int .u32 0, .int .i64 0] 29 (0, 0)) → Mod (fun k => k = a.cb ∨ Sp.pgBlk E.A k) V V' → StpBox V' W.heap.size 0 0 0) := Lib.hid fun V V' hV hm => StpBox.mod ⟨hV⟩ hm (by
      rintro (g | g)
      · have := HW.out.cp.lt; omega
      · have := HW.out.sp.lt (.inr (.inr g)); omega)
    have HN : Hid (∀ A', Cp.blks A' = Cp.blks E.A → ¬ a.foot A' W.heap.size) := Lib.hid fun A' e g => by
      have hlt := HL.out
      have : a.foot E.A W.heap.size := by
        rcases g with q | q | q | q
        · exact .inl q
        · exact .inr (.inl q)
        · exact .inr (.inr (.inl ((Cp.foot_iff e).1 q)))
        · exact .inr (.inr (.inr q))
      have := hlt _ this
      have := Hsz.out
      omega
    clear cA
    go_upto_region 4 with fail
    go_cut [5] (fun s5 wx => ∃ B : Nat, s5 = .pointer (some ⟨B, 0, none⟩) ∧ StpBox wx B kind num why ∧ W.heap.size ≤ B ∧ EStep W wx a E a { E with A := A2, r := r2, pc := pc2 })
    case first =>
      go_region_with (go_at_call 28
                      first
                        | (have hbV := Below.refl W.heap.size W
                           (with_reducible refine (HSt.out _ (HW.out.below hbV)).mono ?_)
                           rintro e w3 ⟨rfl, hc3, hs3, hm3⟩
                           have HS3 := Lib.hid ((EStep.cpu (HW.out.below hbV) hc3 hs3 HEb.out HEa.out hm3).pre hbV))
                        | (have hbV := (Below.refl W.heap.size W).drew
                           (with_reducible refine (HSt.out _ (HW.out.below hbV)).mono ?_)
                           rintro e w3 ⟨rfl, hc3, hs3, hm3⟩
                           have HS3 := Lib.hid ((EStep.cpu (HW.out.below hbV) hc3 hs3 HEb.out HEa.out hm3).pre hbV))
                        | (have hbV := HBd.out (.cells #[.int .u8 0, .int .u32 0, .int .i64 0] 29)
                           (with_reducible refine (HSt.out _ (HW.out.below hbV)).mono ?_)
                           rintro e w3 ⟨rfl, hc3, hs3, hm3⟩
                           have HS3 := Lib.hid ((EStep.cpu (HW.out.below hbV) hc3 hs3 HEb.out HEa.out hm3).pre hbV)
                           have HB3 := Lib.hid (HBx.out _ _ (by exact heap_alloc_new W _) hm3)
                           obtain ⟨t0, t1, t2, f0, f1, f2⟩ := HB3.out.cells)
                        | (have hbV := (HBd.out (.cells #[.int .u8 0, .int .u32 0, .int .i64 0] 29)).drew
                           (with_reducible refine (HSt.out _ (HW.out.below hbV)).mono ?_)
                           rintro e w3 ⟨rfl, hc3, hs3, hm3⟩
                           have HS3 := Lib.hid ((EStep.cpu (HW.out.below hbV) hc3 hs3 HEb.out HEa.out hm3).pre hbV)
                           have HB3 := Lib.hid (HBx.out _ _ (by exact heap_alloc_new W _) hm3)
                           obtain ⟨t0, t1, t2, f0, f1, f2⟩ := HB3.out.cells))
      all_goals go_wp2_with fail
      all_goals go_meet
      all_goals first
        | exact ⟨_, rfl, ⟨heap_alloc_new w3 _⟩, HS3.out.mod.size, HS3.out.below ((Below.refl _ _).alloc (Nat.le_refl _) _)⟩
        | exact ⟨_, rfl, HB3.out.set _ _ _, Nat.le_refl _, HS3.out.turn (stp_mod _ _ _ _ _) (fun k hk => by subst hk; exact ⟨HN.out _ HEb.out, Nat.le_refl _⟩)⟩
    case rest =>
      obtain ⟨B, rfl, hbx, hB, hes⟩ := hcut
      have hnf : ¬ a.foot A2 w.heap.size := fun g => by
        rcases hes.foot _ g with q | q
        · have hh := HL.out
          have := hh _ q
          omega
        · have := Hsz.out
          omega
      have hr : StpBox wc w.heap.size 0 0 0 := ⟨(hes.mod.block _ (by have := Hsz.out; omega) (fun g => by have hh := HL.out; have := hh _ g; omega)).trans hrs.out⟩
      have hBe : B ≠ a.eb := fun e => by have hh := HL.out; have := hh _ (.inl rfl : a.foot E.A a.eb); have := Hsz.out; omega
      have hBw : B ≠ w.heap.size := fun e => by have := Hsz.out; omega
      have hwe : w.heap.size ≠ a.eb := fun e => by have hh := HL.out; have := hh _ (.inl rfl : a.foot E.A a.eb); omega
      have HE := Lib.hid (HWs.out.trans hes)
      have HNf := Lib.hid hnf
      have HLw : Hid (w.heap.size ≤ w.heap.size) := Lib.hid (Nat.le_refl _)
      clear c0 c2 cA0 cA2 HN HBx HBd HW HWs HHW hes hB hnf hrs HL HSt HEa HEb Hsz
      by_cases h2 : kind = 2
      · subst h2
        obtain ⟨_, _, _, _, k4, k5, k6, _⟩ := cells HE.out.env
        have f4 := HE.out.env.free 4
        have f5 := HE.out.env.free 5
        have f6 := HE.out.env.free 6
        have hm : Mod (fun i => i = a.eb) wc (((wc.setCell ⟨a.eb, 4, none⟩ (.int .u8 4)).setCell ⟨a.eb, 5, none⟩ (.int .u32 0)).setCell ⟨a.eb, 6, none⟩ (.int .i64 why)) := Mod.setCell (F := fun i => i = a.eb) (Mod.setCell (F := fun i => i = a.eb) (Mod.setCell (F := fun i => i = a.eb) (Mod.refl _ _) ⟨a.eb, 4, none⟩ (.inl rfl) _) ⟨a.eb, 5, none⟩ (.inl rfl) _) ⟨a.eb, 6, none⟩ (.inl rfl) _
        obtain ⟨t0, t1, t2, _, _, _⟩ := hbx.cells
        obtain ⟨y0, y1, y2, _, _, _⟩ := (hbx.mod hm hBe).cells
        obtain ⟨r0, r1, r2', g0, g1, g2⟩ := (hr.mod hm hwe).cells
        have HF := Lib.hid ((HE.out.trans (EStep.setState HE.out.env 4 0 why)).turn (stp_mod _ w.heap.size (.int .u8 2) (.int .u32 num) (.int .i64 why)) (fun k hk => by subst hk; exact ⟨HNf.out, HLw.out⟩))
        have HR2 := Lib.hid (hr.mod hm hwe)
        clear hm hbx hr HE
        go_wp2
        obtain ⟨v0, v1, v2, _, _, _⟩ := (HR2.out.set 2 num why).cells
        refine bodyPost_ret (v := .tuple #[.agg #[.int .u8 2, .int .u32 num, .int .i64 why], .int .i64 0]) (by simp [results, Tryz.results10, go_sem, *]) rfl ?_
        exact ⟨rfl, HF.out⟩
      · have H2 := Lib.hid h2
        have hkb : (kind == 2) = false := beq_eq_false_iff_ne.2 h2
        obtain ⟨t0, t1, t2, _, _, _⟩ := hbx.cells
        obtain ⟨r0, r1, r2', g0, g1, g2⟩ := hr.cells
        have HF := Lib.hid (HE.out.turn (stp_mod _ w.heap.size (.int .u8 kind) (.int .u32 num) (.int .i64 why)) (fun k hk => by subst hk; exact ⟨HNf.out, HLw.out⟩))
        have HR2 := Lib.hid hr
        clear hbx hr HE
        go_wp2
        obtain ⟨v0, v1, v2, _, _, _⟩ := (HR2.out.set kind num why).cells
        refine bodyPost_ret (v := .tuple #[.agg #[.int .u8 kind, .int .u32 num, .int .i64 why], .int .i64 0]) (by simp [results, Tryz.results10, go_sem, *]) rfl ?_
        exact ⟨rfl, HF.out⟩
  · have e : E.redE = 3 := by unfold En.redE; rw [if_pos hk]
    have e2 : E.stop = (0, 0, 0) := by unfold En.stop; rw [if_pos hk]
    have e3 : E.step = E := by unfold En.step; rw [if_pos hk]
    have HS := Lib.hid (EStep.of_below h hbx)
    rw [e] at HR ⊢
    rw [e2, e3]
    clear e e2 e3 hk h hbx
    go_enter Tryz.func10, Tryz.ntmps10
    go_wp2_with fail
    refine HR.out.mono ?_
    rintro e w2 ⟨rfl, rfl⟩
    go_wp2
    refine bodyPost_ret (v := .tuple #[.agg #[.int .u8 0, .int .u32 0, .int .i64 0], .int .i64 3]) (by simp [results, Tryz.results10, go_sem, *]) rfl ?_
    exact ⟨rfl, HS.out⟩
end
end Ev
end Go.Proofs.YtldmglodjafklaaGreat
