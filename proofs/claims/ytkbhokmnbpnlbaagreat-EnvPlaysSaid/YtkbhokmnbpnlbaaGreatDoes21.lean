/- Does21: RenvX, Does21 in one text. -/
import Derived.Test.YtkbhokmnbpnlbaaGreatRenvW
import Derived.Test.YtkbhokmnbpnlbaaGreatEnvX
import Derived.Test.YtkbhokmnbpnlbaaGreatStepD
import Derived.Test.YtkbhokmnbpnlbaaGreatHeavy21
import Derived.Deep.RegionHeld3
/- The walk of the document's environment's Step. -/
namespace Go.Proofs.YtkbhokmnbpnlbaaGreat
open Go.RowKit Word
set_option linter.unusedVariables false
set_option linter.unusedSimpArgs false
namespace Rv
open Ev (addrs_stp)
section
variable {w : World} {a : RAt} {R : List Rp} {E : En}
set_option maxRecDepth 100000 in
set_option maxHeartbeats 4000000 in
theorem step (h : Renv w a R E) : Calls Tryz.prog 74 #[.pointer (some ⟨a.eb, 0, none⟩)] w fun e w' => e = .returned (.tuple #[.agg #[.int .u8 E.stop.1, .int .u32 E.stop.2.1, .int .i64 E.stop.2.2], .int .i64 E.redE]) ∧ ∃ R', RvStep w w' a R E a R' E.step := by
  have hbx : Below w.heap.size w (w.alloc (.cells #[.int .u8 0, .int .u32 0, .int .i64 0] 67)) := (Below.refl _ _).alloc (Nat.le_refl _) _
  have HR := Lib.hid (ready (h.below hbx))
  by_cases hk : E.kind = 2
  · have e : E.redE = 0 := by unfold En.redE; rw [if_neg (by omega)]
    rw [show (E.kind == 2) = true from beq_iff_eq.2 hk] at HR
    rw [e]
    have e1 : E.stop = ((Cp.stp E.A E.r E.pc).kind, (Cp.stp E.A E.r E.pc).num, (Cp.stp E.A E.r E.pc).why) := by unfold En.stop; rw [if_neg (by omega)]
    have hrs : Hid ((w.alloc (.cells #[.int .u8 0, .int .u32 0, .int .i64 0] 67)).heap[w.heap.size]? = some (.cells #[.int .u8 0, .int .u32 0, .int .i64 0] 67 (0, 0))) := Lib.hid (heap_alloc_new w _)
    have HW := Lib.hid (h.below hbx)
    have HWs := Lib.hid (RvStep.of_below h hbx)
    have Hsz : Hid ((w.alloc (.cells #[.int .u8 0, .int .u32 0, .int .i64 0] 67)).heap.size = w.heap.size + 1) := Lib.hid (by simp)
    have HL : Hid (∀ k, a.foot R k → k < w.heap.size) := Lib.hid h.lt
    have ea := addrs_stp (A := E.A) h.cp.regs E.pc
    have hhas := h.ok.has
    have e2 : E.step = if (Cp.stp E.A E.r E.pc).kind = 2 then { E with A := (Cp.stp E.A E.r E.pc).A, r := (Cp.stp E.A E.r E.pc).r, pc := (Cp.stp E.A E.r E.pc).pc, kind := 4, code := 0, why := (Cp.stp E.A E.r E.pc).why } else { E with A := (Cp.stp E.A E.r E.pc).A, r := (Cp.stp E.A E.r E.pc).r, pc := (Cp.stp E.A E.r E.pc).pc } := by unfold En.step; rw [if_neg (by omega)]
    have hst : ∀ V, Renv V a R E → Calls Tryz.prog 152 #[.pointer (some ⟨a.cb, 0, none⟩), .pointer (some ⟨a.rb, 0, none⟩)] V (fun e w' => ∃ R', e = .returned (.agg #[.int .u8 (Cp.stp E.A E.r E.pc).kind, .int .u32 (Cp.stp E.A E.r E.pc).num, .int .i64 (Cp.stp E.A E.r E.pc).why]) ∧ Cpu 124 w' a.cb (Cp.stp E.A E.r E.pc).r (Cp.stp E.A E.r E.pc).pc ∧ rpgs R' = (Cp.stp E.A E.r E.pc).A ∧ Rsp w' a.rb a.lv R' ∧ Mod (fun k => k = a.cb ∨ Rsp.foot a.rb a.lv R k) V w' ∧ ∀ k, Rsp.foot a.rb a.lv R' k → Rsp.foot a.rb a.lv R k ∨ V.heap.size ≤ k) := fun V hV => by
      have := Cp.stepD hV.cp hV.rp hV.cs
      rw [hV.eq] at this
      exact this
    rw [e1, e2]
    clear e e1 e2
    generalize Cp.stp E.A E.r E.pc = o at *
    obtain ⟨kind, num, why, r2, pc2, A2⟩ := o
    simp only at ea hst ⊢
    have hok : ∀ x, x ∈ E.own → (atAddr A2 x).isSome = true := fun x hx => by
      have := hhas x hx
      rw [isSome_addr] at this ⊢
      rwa [ea]
    have HSt := Lib.hid hst
    have HOk := Lib.hid hok
    clear hst ea hok hhas hbx hk h
    go_enter Tryz.func74, Tryz.ntmps74
    go_wp2_with fail
    refine HR.out.mono ?_
    rintro e w2 ⟨rfl, rfl⟩
    clear HR
    generalize hWW : w.alloc (.cells #[.int .u8 0, .int .u32 0, .int .i64 0] 67) = W at *
    have HHW := Lib.hid hWW
    clear hWW
    obtain ⟨_, c1, c2, _, _, _, _, _⟩ := cells HW.out
    have cA := fun o => cells (HW.out.below ((Below.refl _ W).alloc (Nat.le_refl _) o))
    have cA1 := fun o => (cA o).2.1
    have cA2 := fun o => (cA o).2.2.1
    have HBd : Hid (∀ o, Below W.heap.size W (W.alloc o)) := Lib.hid fun o => (Below.refl _ _).alloc (Nat.le_refl _) o
    have HBx : Hid (∀ V V' : World, V.heap[W.heap.size]? = some (.cells #[.int .u8 0, .int .u32 0, .int .i64 0] 67 (0, 0)) → Mod (fun k => k = a.cb ∨ Rsp.foot a.rb a.lv R k) V V' → StpBox V' W.heap.size 0 0 0) := Lib.hid fun V V' hV hm => StpBox.mod ⟨hV⟩ hm (by
      rintro (g | g)
      · have := HW.out.cp.lt; omega
      · have := HW.out.rp.lt g; omega)
    have HN : Hid (∀ (V : World) (R' : List Rp), W.heap.size < V.heap.size → (∀ k, Rsp.foot a.rb a.lv R' k → Rsp.foot a.rb a.lv R k ∨ V.heap.size ≤ k) → ¬ a.foot R' W.heap.size) := Lib.hid fun V R' hlt hf g => by
      have hh := HL.out
      have hs := Hsz.out
      rcases g with q | q | q | q
      · have := hh _ (.inl q); omega
      · have := hh _ (.inr (.inl q)); omega
      · rcases hf _ q with z | z
        · have := hh _ (.inr (.inr (.inl z))); omega
        · omega
      · have := hh _ (.inr (.inr (.inr q))); omega
    clear cA
    go_upto_region 3 with fail
    go_cut [4] (fun s5 wx => ∃ (B : Nat) (R' : List Rp), s5 = .pointer (some ⟨B, 0, none⟩) ∧ StpBox wx B kind num why ∧ W.heap.size ≤ B ∧ RvStep W wx a R E a R' { E with A := A2, r := r2, pc := pc2 })
    case first =>
      go_region_with (go_at_call 152
                      first
                        | (have hbV := Below.refl W.heap.size W
                           (with_reducible refine (HSt.out _ (HW.out.below hbV)).mono ?_)
                           rintro e w3 ⟨R3, rfl, hc3, hA3, hs3, hm3, hf3⟩
                           have HS3 := Lib.hid ((RvStep.space (HW.out.below hbV) hc3 hs3 hm3 hf3 hA3 HOk.out).pre hbV))
                        | (have hbV := (Below.refl W.heap.size W).drew
                           (with_reducible refine (HSt.out _ (HW.out.below hbV)).mono ?_)
                           rintro e w3 ⟨R3, rfl, hc3, hA3, hs3, hm3, hf3⟩
                           have HS3 := Lib.hid ((RvStep.space (HW.out.below hbV) hc3 hs3 hm3 hf3 hA3 HOk.out).pre hbV))
                        | (have hbV := HBd.out (.cells #[.int .u8 0, .int .u32 0, .int .i64 0] 67)
                           (with_reducible refine (HSt.out _ (HW.out.below hbV)).mono ?_)
                           rintro e w3 ⟨R3, rfl, hc3, hA3, hs3, hm3, hf3⟩
                           have HS3 := Lib.hid ((RvStep.space (HW.out.below hbV) hc3 hs3 hm3 hf3 hA3 HOk.out).pre hbV)
                           have HN3 := Lib.hid (HN.out _ R3 (by simp) hf3)
                           have HB3 := Lib.hid (HBx.out _ _ (by exact heap_alloc_new W _) hm3)
                           obtain ⟨t0, t1, t2, f0, f1, f2⟩ := HB3.out.cells)
                        | (have hbV := (HBd.out (.cells #[.int .u8 0, .int .u32 0, .int .i64 0] 67)).drew
                           (with_reducible refine (HSt.out _ (HW.out.below hbV)).mono ?_)
                           rintro e w3 ⟨R3, rfl, hc3, hA3, hs3, hm3, hf3⟩
                           have HS3 := Lib.hid ((RvStep.space (HW.out.below hbV) hc3 hs3 hm3 hf3 hA3 HOk.out).pre hbV)
                           have HN3 := Lib.hid (HN.out _ R3 (by simp) hf3)
                           have HB3 := Lib.hid (HBx.out _ _ (by exact heap_alloc_new W _) hm3)
                           obtain ⟨t0, t1, t2, f0, f1, f2⟩ := HB3.out.cells))
      all_goals go_wp2_with fail
      all_goals go_meet
      all_goals first
        | exact ⟨_, R3, rfl, ⟨heap_alloc_new w3 _⟩, HS3.out.mod.size, HS3.out.below ((Below.refl _ _).alloc (Nat.le_refl _) _)⟩
        | exact ⟨_, R3, rfl, HB3.out.set _ _ _, Nat.le_refl _, HS3.out.turn (stp_mod _ _ _ _ _) (fun k hk => by subst hk; exact ⟨HN3.out, Nat.le_refl _⟩)⟩
    case rest =>
      obtain ⟨B, R3, rfl, hbx, hB, hes⟩ := hcut
      have hnf : ¬ a.foot R3 w.heap.size := fun g => by
        rcases hes.foot _ g with q | q
        · have hh := HL.out
          have := hh _ q
          omega
        · have := Hsz.out
          omega
      have hr : StpBox wc w.heap.size 0 0 0 := ⟨(hes.mod.block _ (by have := Hsz.out; omega) (fun g => by have hh := HL.out; have := hh _ g; omega)).trans hrs.out⟩
      have hBe : B ≠ a.eb := fun e => by have hh := HL.out; have := hh _ (.inl rfl : a.foot R a.eb); have := Hsz.out; omega
      have hBw : B ≠ w.heap.size := fun e => by have := Hsz.out; omega
      have hwe : w.heap.size ≠ a.eb := fun e => by have hh := HL.out; have := hh _ (.inl rfl : a.foot R a.eb); omega
      have HE := Lib.hid (HWs.out.trans hes)
      have HNf := Lib.hid hnf
      have HLw : Hid (w.heap.size ≤ w.heap.size) := Lib.hid (Nat.le_refl _)
      clear c1 c2 cA1 cA2 HN HBx HBd HW HWs HHW hes hB hnf hrs HL HSt HOk Hsz
      by_cases h2 : kind = 2
      · subst h2
        obtain ⟨_, _, _, k4, k5, k6, _⟩ := cells HE.out.ren
        have f4 := HE.out.ren.free 3
        have f5 := HE.out.ren.free 4
        have f6 := HE.out.ren.free 5
        have hm : Mod (fun i => i = a.eb) wc (((wc.setCell ⟨a.eb, 3, none⟩ (.int .u8 4)).setCell ⟨a.eb, 4, none⟩ (.int .u32 0)).setCell ⟨a.eb, 5, none⟩ (.int .i64 why)) := Mod.setCell (F := fun i => i = a.eb) (Mod.setCell (F := fun i => i = a.eb) (Mod.setCell (F := fun i => i = a.eb) (Mod.refl _ _) ⟨a.eb, 3, none⟩ (.inl rfl) _) ⟨a.eb, 4, none⟩ (.inl rfl) _) ⟨a.eb, 5, none⟩ (.inl rfl) _
        obtain ⟨t0, t1, t2, _, _, _⟩ := hbx.cells
        obtain ⟨y0, y1, y2, _, _, _⟩ := (hbx.mod hm hBe).cells
        obtain ⟨r0, r1, r2', g0, g1, g2⟩ := (hr.mod hm hwe).cells
        have HF := Lib.hid ((HE.out.trans (RvStep.setState HE.out.ren 4 0 why)).turn (stp_mod _ w.heap.size (.int .u8 2) (.int .u32 num) (.int .i64 why)) (fun k hk => by subst hk; exact ⟨HNf.out, HLw.out⟩))
        have HR2 := Lib.hid (hr.mod hm hwe)
        clear hm hbx hr HE
        go_wp2
        obtain ⟨v0, v1, v2, _, _, _⟩ := (HR2.out.set 2 num why).cells
        refine bodyPost_ret (v := .tuple #[.agg #[.int .u8 2, .int .u32 num, .int .i64 why], .int .i64 0]) (by simp [results, Tryz.results74, go_sem, *]) rfl ?_
        first | exact ⟨rfl, _, HF.out⟩ | exact ⟨_, rfl, HF.out⟩
      · have H2 := Lib.hid h2
        have hkb : (kind == 2) = false := beq_eq_false_iff_ne.2 h2
        obtain ⟨t0, t1, t2, _, _, _⟩ := hbx.cells
        obtain ⟨r0, r1, r2', g0, g1, g2⟩ := hr.cells
        have HF := Lib.hid (HE.out.turn (stp_mod _ w.heap.size (.int .u8 kind) (.int .u32 num) (.int .i64 why)) (fun k hk => by subst hk; exact ⟨HNf.out, HLw.out⟩))
        have HR2 := Lib.hid hr
        clear hbx hr HE
        go_wp2
        obtain ⟨v0, v1, v2, _, _, _⟩ := (HR2.out.set kind num why).cells
        refine bodyPost_ret (v := .tuple #[.agg #[.int .u8 kind, .int .u32 num, .int .i64 why], .int .i64 0]) (by simp [results, Tryz.results74, go_sem, *]) rfl ?_
        first | exact ⟨rfl, _, HF.out⟩ | exact ⟨_, rfl, HF.out⟩
  · have e : E.redE = 3 := by unfold En.redE; rw [if_pos hk]
    have e2 : E.stop = (0, 0, 0) := by unfold En.stop; rw [if_pos hk]
    have e3 : E.step = E := by unfold En.step; rw [if_pos hk]
    have HS := Lib.hid (RvStep.of_below h hbx)
    rw [show (E.kind == 2) = false from beq_eq_false_iff_ne.2 hk] at HR
    rw [e]
    rw [e2, e3]
    clear e e2 e3 hk h hbx
    go_enter Tryz.func74, Tryz.ntmps74
    go_wp2_with fail
    refine HR.out.mono ?_
    rintro e w2 ⟨rfl, rfl⟩
    go_wp2
    refine bodyPost_ret (v := .tuple #[.agg #[.int .u8 0, .int .u32 0, .int .i64 0], .int .i64 3]) (by simp [results, Tryz.results74, go_sem, *]) rfl ?_
    first | exact ⟨rfl, _, HS.out⟩ | exact ⟨_, rfl, HS.out⟩
end
end Rv
end Go.Proofs.YtkbhokmnbpnlbaaGreat
/- The walk of aediculelaw21.does. -/
namespace Go.Proofs.YtkbhokmnbpnlbaaGreat
open Go.RowKit Word
set_option linter.unusedVariables false
set_option linter.unusedSimpArgs false
namespace EPair
variable {w0 w w' : World} {a : EAt} {E : En} {b : RAt} {R : List Rp} {F : En}
theorem other (h : EPair w0 w a E b R F) {p : Addr} {v : Value} {a' : EAt} {E' : En} (s : EStep w w' a E a' E') (hc : w.cell? p = some v) (hp : ¬ a.foot E.A p.block) (hl : p.block < w.heap.size) : w'.cell? p = some v :=
  (World.cell?_of_block (w := w) (s.mod.block _ hl hp)).trans hc
end EPair
/-- What an act leaves. -/
def Does21 (w0 w : World) (a : EAt) (b : RAt) (e : Ending) (w' : World) : Prop :=
  ∃ a' E' b' R' F', e = .returned (.bool true) ∧ EPair w0 w' a' E' b' R' F' ∧ En.Like E' F' ∧ a'.eb = a.eb ∧ b'.eb = b.eb
namespace Cp
theorem same_a {a a' : EAt} {E E' : En} {w w' : World} (h : EStep w w' a E a' E') : a'.eb = a.eb := h.same.1
section
variable {w0 w : World} {a : EAt} {E : En} {b : RAt} {R : List Rp} {F : En}
set_option maxRecDepth 100000 in
set_option maxHeartbeats 8000000 in
theorem does_exit (h : EPair w0 w a E b R F) (hl : En.Like E F) (x : ActR) (hx : x.ok) (hd : x.dod = 1) :
    Calls Tryz.prog 30 #[.pointer (some ⟨a.eb, 0, none⟩), .pointer (some ⟨b.eb, 0, none⟩), .agg x.cells] w (Does21 w0 w a b) := by
  have HFin : Hid (∀ a' E' b' R' F' w' bb, bb = true → EPair w0 w' a' E' b' R' F' → En.Like E' F' → a'.eb = a.eb → b'.eb = b.eb → Does21 w0 w a b (.returned (.bool bb)) w') := Lib.hid fun a' E' b' R' F' w' bb hbb h1 h2 h3 h4 => ⟨a', E', b', R', F', by rw [hbb], h1, h2, h3, h4⟩
  generalize Does21 w0 w a b = PQ at *
  unfold ActR.cells
  rw [hd]
  have hbb : Below w.heap.size w (w.alloc (.cells #[.int .i64 1, .int .u32 x.n, .int .u32 x.m, .string x.text] 60)) := (Below.refl _ _).alloc (Nat.le_refl _) _
  have HP := Lib.hid (h.below hbb)
  have HL := Lib.hid hl
  have HX := Lib.hid hx
  have HN : Hid (¬ a.foot E.A w.heap.size ∧ ¬ b.foot R w.heap.size) := Lib.hid ⟨fun g => Nat.lt_irrefl _ (h.env.lt _ g), fun g => Nat.lt_irrefl _ (h.ren.lt _ g)⟩
  have hcb : ∀ (i : Nat) (v : Value), (#[Value.int .i64 1, .int .u32 x.n, .int .u32 x.m, .string x.text] : Array Value)[i]? = some v → (w.alloc (.cells #[.int .i64 1, .int .u32 x.n, .int .u32 x.m, .string x.text] 60)).cell? ⟨w.heap.size, i, none⟩ = some v := fun i v hi => by
    unfold World.cell?
    rw [heap_alloc_new]
    exact hi
  have k1 := hcb 1 _ rfl
  have k2 := hcb 2 _ rfl
  have k3 := hcb 3 _ rfl
  have hbl : w.heap.size < (w.alloc (.cells #[.int .i64 1, .int .u32 x.n, .int .u32 x.m, .string x.text] 60)).heap.size := by simp
  clear h hl hx hbb hcb hd
  go_enter Tryz.func30, Tryz.ntmps30
  go_wp2
  generalize hW : w.alloc (.cells #[.int .i64 1, .int .u32 x.n, .int .u32 x.m, .string x.text] 60) = W at *
  clear hW
  have HD0 : Hid (∀ V, Below W.heap.size W V → EPair w0 V a E b R F) := Lib.hid fun V hV => HP.out.below hV
  go_region_held3 (fun w' => w'.cell? ⟨w.heap.size, 1, none⟩ = some (.int .u32 x.n))
    (first
      | exact k1
      | exact k1a
      | exact k1b)
    (first
      | (go_at_call 29
         refine (Ev.exit (HD0.out _ (by first | exact Below.refl _ _ | exact (Below.refl _ _).drew)).env x.n).mono ?_
         rintro e w1 ⟨rfl, hs1⟩
         have hp1 := (HD0.out _ (by first | exact Below.refl _ _ | exact (Below.refl _ _).drew)).left hs1
         have k1a : w1.cell? ⟨w.heap.size, 1, none⟩ = some (.int .u32 x.n) := (World.cell?_of_block (w := W) (hs1.mod.block _ hbl HN.out.1)).trans k1
         have hbl1 := Nat.lt_of_lt_of_le hbl hs1.mod.size)
      | (go_at_call 75
         refine (Rv.exit hp1.ren x.n).mono ?_
         rintro e w2 ⟨rfl, hs2⟩
         have hp2 := hp1.right hs2
         have k1b : w2.cell? ⟨w.heap.size, 1, none⟩ = some (.int .u32 x.n) := (World.cell?_of_block (w := w1) (hs2.mod.block _ hbl1 HN.out.2)).trans k1a))
  all_goals
    have HF := Lib.hid (HFin.out _ _ _ _ _ _ (E.redE == F.redE) (beq_iff_eq.2 (HL.out.redE)) hp2 (HL.out.exit x.n) hs1.same.1 hs2.same)
    clear k1 k2 k3 k1a k1b hp1 hp2 hs1 hs2
    go_wp2
    exact HF.out
set_option maxRecDepth 100000 in
set_option maxHeartbeats 8000000 in
theorem does_page (h : EPair w0 w a E b R F) (hl : En.Like E F) (x : ActR) (hx : x.ok) (hd : x.dod = 2) :
    Calls Tryz.prog 30 #[.pointer (some ⟨a.eb, 0, none⟩), .pointer (some ⟨b.eb, 0, none⟩), .agg x.cells] w (Does21 w0 w a b) := by
  have HFin : Hid (∀ a' E' b' R' F' w' bb, bb = true → EPair w0 w' a' E' b' R' F' → En.Like E' F' → a'.eb = a.eb → b'.eb = b.eb → Does21 w0 w a b (.returned (.bool bb)) w') := Lib.hid fun a' E' b' R' F' w' bb hbb h1 h2 h3 h4 => ⟨a', E', b', R', F', by rw [hbb], h1, h2, h3, h4⟩
  generalize Does21 w0 w a b = PQ at *
  unfold ActR.cells
  rw [hd]
  have hbb : Below w.heap.size w (w.alloc (.cells #[.int .i64 2, .int .u32 x.n, .int .u32 x.m, .string x.text] 60)) := (Below.refl _ _).alloc (Nat.le_refl _) _
  have HP := Lib.hid (h.below hbb)
  have HL := Lib.hid hl
  have HX := Lib.hid hx
  have HN : Hid (¬ a.foot E.A w.heap.size ∧ ¬ b.foot R w.heap.size) := Lib.hid ⟨fun g => Nat.lt_irrefl _ (h.env.lt _ g), fun g => Nat.lt_irrefl _ (h.ren.lt _ g)⟩
  have hcb : ∀ (i : Nat) (v : Value), (#[Value.int .i64 2, .int .u32 x.n, .int .u32 x.m, .string x.text] : Array Value)[i]? = some v → (w.alloc (.cells #[.int .i64 2, .int .u32 x.n, .int .u32 x.m, .string x.text] 60)).cell? ⟨w.heap.size, i, none⟩ = some v := fun i v hi => by
    unfold World.cell?
    rw [heap_alloc_new]
    exact hi
  have k1 := hcb 1 _ rfl
  have k2 := hcb 2 _ rfl
  have k3 := hcb 3 _ rfl
  have hbl : w.heap.size < (w.alloc (.cells #[.int .i64 2, .int .u32 x.n, .int .u32 x.m, .string x.text] 60)).heap.size := by simp
  clear h hl hx hbb hcb hd
  go_enter Tryz.func30, Tryz.ntmps30
  go_wp2
  generalize hW : w.alloc (.cells #[.int .i64 2, .int .u32 x.n, .int .u32 x.m, .string x.text] 60) = W at *
  clear hW
  have HD0 : Hid (∀ V, Below W.heap.size W V → EPair w0 V a E b R F) := Lib.hid fun V hV => HP.out.below hV
  go_region_held3 (fun w' => w'.cell? ⟨w.heap.size, 1, none⟩ = some (.int .u32 x.n))
    (first
      | exact k1
      | exact k1a
      | exact k1b)
    (first
      | (go_at_call 26
         refine (Ev.page (HD0.out _ (by first | exact Below.refl _ _ | exact (Below.refl _ _).drew)).env x.n HX.out.n0 HX.out.n1).mono ?_
         rintro e w1 ⟨blk1, lv1, rfl, hs1⟩
         have hp1 := (HD0.out _ (by first | exact Below.refl _ _ | exact (Below.refl _ _).drew)).left hs1
         have k1a : w1.cell? ⟨w.heap.size, 1, none⟩ = some (.int .u32 x.n) := (World.cell?_of_block (w := W) (hs1.mod.block _ hbl HN.out.1)).trans k1
         have hbl1 := Nat.lt_of_lt_of_le hbl hs1.mod.size)
      | (go_at_call 76
         refine (Rv.page hp1.ren x.n HX.out.n0 HX.out.n1).mono ?_
         rintro e w2 ⟨blk2, b2, R2, rfl, hs2⟩
         have hp2 := hp1.right hs2
         have k1b : w2.cell? ⟨w.heap.size, 1, none⟩ = some (.int .u32 x.n) := (World.cell?_of_block (w := w1) (hs2.mod.block _ hbl1 HN.out.2)).trans k1a))
  all_goals
    have HF := Lib.hid (HFin.out _ _ _ _ _ _ (E.pageE x.n == F.pageE x.n) (beq_iff_eq.2 (HL.out.pageE x.n)) hp2 (HL.out.page x.n _ _) hs1.same.1 hs2.same)
    clear k1 k2 k3 k1a k1b hp1 hp2 hs1 hs2
    go_wp2
    exact HF.out
set_option maxRecDepth 100000 in
set_option maxHeartbeats 8000000 in
theorem does_drop (h : EPair w0 w a E b R F) (hl : En.Like E F) (x : ActR) (hx : x.ok) (hd : x.dod = 3) :
    Calls Tryz.prog 30 #[.pointer (some ⟨a.eb, 0, none⟩), .pointer (some ⟨b.eb, 0, none⟩), .agg x.cells] w (Does21 w0 w a b) := by
  have HFin : Hid (∀ a' E' b' R' F' w' bb, bb = true → EPair w0 w' a' E' b' R' F' → En.Like E' F' → a'.eb = a.eb → b'.eb = b.eb → Does21 w0 w a b (.returned (.bool bb)) w') := Lib.hid fun a' E' b' R' F' w' bb hbb h1 h2 h3 h4 => ⟨a', E', b', R', F', by rw [hbb], h1, h2, h3, h4⟩
  generalize Does21 w0 w a b = PQ at *
  unfold ActR.cells
  rw [hd]
  have hbb : Below w.heap.size w (w.alloc (.cells #[.int .i64 3, .int .u32 x.n, .int .u32 x.m, .string x.text] 60)) := (Below.refl _ _).alloc (Nat.le_refl _) _
  have HP := Lib.hid (h.below hbb)
  have HL := Lib.hid hl
  have HX := Lib.hid hx
  have HN : Hid (¬ a.foot E.A w.heap.size ∧ ¬ b.foot R w.heap.size) := Lib.hid ⟨fun g => Nat.lt_irrefl _ (h.env.lt _ g), fun g => Nat.lt_irrefl _ (h.ren.lt _ g)⟩
  have hcb : ∀ (i : Nat) (v : Value), (#[Value.int .i64 3, .int .u32 x.n, .int .u32 x.m, .string x.text] : Array Value)[i]? = some v → (w.alloc (.cells #[.int .i64 3, .int .u32 x.n, .int .u32 x.m, .string x.text] 60)).cell? ⟨w.heap.size, i, none⟩ = some v := fun i v hi => by
    unfold World.cell?
    rw [heap_alloc_new]
    exact hi
  have k1 := hcb 1 _ rfl
  have k2 := hcb 2 _ rfl
  have k3 := hcb 3 _ rfl
  have hbl : w.heap.size < (w.alloc (.cells #[.int .i64 3, .int .u32 x.n, .int .u32 x.m, .string x.text] 60)).heap.size := by simp
  clear h hl hx hbb hcb hd
  go_enter Tryz.func30, Tryz.ntmps30
  go_wp2
  generalize hW : w.alloc (.cells #[.int .i64 3, .int .u32 x.n, .int .u32 x.m, .string x.text] 60) = W at *
  clear hW
  have HD0 : Hid (∀ V, Below W.heap.size W V → EPair w0 V a E b R F) := Lib.hid fun V hV => HP.out.below hV
  go_region_held3 (fun w' => w'.cell? ⟨w.heap.size, 1, none⟩ = some (.int .u32 x.n))
    (first
      | exact k1
      | exact k1a
      | exact k1b)
    (first
      | (go_at_call 65
         refine (Ev.drop (HD0.out _ (by first | exact Below.refl _ _ | exact (Below.refl _ _).drew)).env x.n HX.out.n0 HX.out.n1).mono ?_
         rintro e w1 ⟨lv1, rfl, hs1⟩
         have hp1 := (HD0.out _ (by first | exact Below.refl _ _ | exact (Below.refl _ _).drew)).left hs1
         have k1a : w1.cell? ⟨w.heap.size, 1, none⟩ = some (.int .u32 x.n) := (World.cell?_of_block (w := W) (hs1.mod.block _ hbl HN.out.1)).trans k1
         have hbl1 := Nat.lt_of_lt_of_le hbl hs1.mod.size)
      | (go_at_call 77
         refine (Rv.drop hp1.ren x.n HX.out.n0 HX.out.n1).mono ?_
         rintro e w2 ⟨b2, R2, rfl, hs2⟩
         have hp2 := hp1.right hs2
         have k1b : w2.cell? ⟨w.heap.size, 1, none⟩ = some (.int .u32 x.n) := (World.cell?_of_block (w := w1) (hs2.mod.block _ hbl1 HN.out.2)).trans k1a))
  all_goals
    have HF := Lib.hid (HFin.out _ _ _ _ _ _ (E.dropE x.n == F.dropE x.n) (beq_iff_eq.2 (HL.out.dropE x.n)) hp2 (HL.out.drop x.n) hs1.same.1 hs2.same)
    clear k1 k2 k3 k1a k1b hp1 hp2 hs1 hs2
    go_wp2
    exact HF.out
set_option maxRecDepth 100000 in
set_option maxHeartbeats 8000000 in
theorem does_put (h : EPair w0 w a E b R F) (hl : En.Like E F) (x : ActR) (hx : x.ok) (hd : x.dod = 4) :
    Calls Tryz.prog 30 #[.pointer (some ⟨a.eb, 0, none⟩), .pointer (some ⟨b.eb, 0, none⟩), .agg x.cells] w (Does21 w0 w a b) := by
  have HFin : Hid (∀ a' E' b' R' F' w' bb, bb = true → EPair w0 w' a' E' b' R' F' → En.Like E' F' → a'.eb = a.eb → b'.eb = b.eb → Does21 w0 w a b (.returned (.bool bb)) w') := Lib.hid fun a' E' b' R' F' w' bb hbb h1 h2 h3 h4 => ⟨a', E', b', R', F', by rw [hbb], h1, h2, h3, h4⟩
  generalize Does21 w0 w a b = PQ at *
  unfold ActR.cells
  rw [hd]
  have hbb : Below w.heap.size w (w.alloc (.cells #[.int .i64 4, .int .u32 x.n, .int .u32 x.m, .string x.text] 60)) := (Below.refl _ _).alloc (Nat.le_refl _) _
  have HP := Lib.hid (h.below hbb)
  have HL := Lib.hid hl
  have HX := Lib.hid hx
  have HN : Hid (¬ a.foot E.A w.heap.size ∧ ¬ b.foot R w.heap.size) := Lib.hid ⟨fun g => Nat.lt_irrefl _ (h.env.lt _ g), fun g => Nat.lt_irrefl _ (h.ren.lt _ g)⟩
  have hcb : ∀ (i : Nat) (v : Value), (#[Value.int .i64 4, .int .u32 x.n, .int .u32 x.m, .string x.text] : Array Value)[i]? = some v → (w.alloc (.cells #[.int .i64 4, .int .u32 x.n, .int .u32 x.m, .string x.text] 60)).cell? ⟨w.heap.size, i, none⟩ = some v := fun i v hi => by
    unfold World.cell?
    rw [heap_alloc_new]
    exact hi
  have k1 := hcb 1 _ rfl
  have k2 := hcb 2 _ rfl
  have k3 := hcb 3 _ rfl
  have hbl : w.heap.size < (w.alloc (.cells #[.int .i64 4, .int .u32 x.n, .int .u32 x.m, .string x.text] 60)).heap.size := by simp
  clear h hl hx hbb hcb hd
  go_enter Tryz.func30, Tryz.ntmps30
  go_wp2
  generalize hW : w.alloc (.cells #[.int .i64 4, .int .u32 x.n, .int .u32 x.m, .string x.text] 60) = W at *
  clear hW
  have HD0 : Hid (∀ V, Below W.heap.size W V → EPair w0 V a E b R F) := Lib.hid fun V hV => HP.out.below hV
  go_region_held3 (fun w' => w'.cell? ⟨w.heap.size, 3, none⟩ = some (.string x.text))
    (first
      | exact k3
      | exact k3a
      | exact k3b)
    (first
      | (go_at_call 27
         refine (Ev.put (HD0.out _ (by first | exact Below.refl _ _ | exact (Below.refl _ _).drew)).env x.text HX.out.t1).mono ?_
         rintro e w1 ⟨rfl, hs1⟩
         have hp1 := (HD0.out _ (by first | exact Below.refl _ _ | exact (Below.refl _ _).drew)).left hs1
         have k3a : w1.cell? ⟨w.heap.size, 3, none⟩ = some (.string x.text) := (World.cell?_of_block (w := W) (hs1.mod.block _ hbl HN.out.1)).trans k3
         have hbl1 := Nat.lt_of_lt_of_le hbl hs1.mod.size)
      | (go_at_call 78
         refine (Rv.put hp1.ren x.text HX.out.t1).mono ?_
         rintro e w2 ⟨rfl, hs2⟩
         have hp2 := hp1.right hs2
         have k3b : w2.cell? ⟨w.heap.size, 3, none⟩ = some (.string x.text) := (World.cell?_of_block (w := w1) (hs2.mod.block _ hbl1 HN.out.2)).trans k3a))
  all_goals
    have HF := Lib.hid (HFin.out _ _ _ _ _ _ (E.putE x.text == F.putE x.text) (beq_iff_eq.2 (HL.out.putE x.text)) hp2 (HL.out.put x.text) hs1.same.1 hs2.same)
    clear k1 k2 k3 k3a k3b hp1 hp2 hs1 hs2
    go_wp2
    exact HF.out

set_option maxRecDepth 100000 in
set_option maxHeartbeats 8000000 in
theorem does_step (h : EPair w0 w a E b R F) (hl : En.Like E F) (x : ActR) (hx : x.ok) (hd : x.dod = 0) :
    Calls Tryz.prog 30 #[.pointer (some ⟨a.eb, 0, none⟩), .pointer (some ⟨b.eb, 0, none⟩), .agg x.cells] w (Does21 w0 w a b) := by
  have HFin : Hid (∀ a' E' b' R' F' w', EPair w0 w' a' E' b' R' F' → En.Like E' F' → a'.eb = a.eb → b'.eb = b.eb → Does21 w0 w a b (.returned (.bool true)) w') := Lib.hid fun a' E' b' R' F' w' h1 h2 h3 h4 => ⟨a', E', b', R', F', rfl, h1, h2, h3, h4⟩
  generalize Does21 w0 w a b = PQ at *
  unfold ActR.cells
  rw [hd]
  have hbb : Below w.heap.size w (w.alloc (.cells #[.int .i64 0, .int .u32 x.n, .int .u32 x.m, .string x.text] 60)) := (Below.refl _ _).alloc (Nat.le_refl _) _
  have HP := Lib.hid (h.below hbb)
  have HL := Lib.hid hl
  clear h hl hx hbb hd
  go_enter Tryz.func30, Tryz.ntmps30
  go_wp2_with fail
  refine (Ev.step HP.out.env).mono ?_
  rintro e w2 ⟨rfl, hs2⟩
  have hp2 := HP.out.left hs2
  obtain ⟨⟨k, u, y⟩, hst⟩ : ∃ q, E.stop = q := ⟨_, rfl⟩
  have hst2 : F.stop = (k, u, y) := HL.out.stop.symm.trans hst
  rw [hst]
  have hb2 : Below w2.heap.size w2 (w2.alloc (.cells #[.int .u8 k, .int .u32 u, .int .i64 y] 67)) := (Below.refl _ _).alloc (Nat.le_refl _) _
  have HP2 := Lib.hid (hp2.below hb2)
  have hkk := Kept.newC hp2.env #[.int .u8 k, .int .u32 u, .int .i64 y] 67
  have HNr : Hid (¬ b.foot R w2.heap.size) := Lib.hid fun g => Nat.lt_irrefl _ (hp2.ren.lt _ g)
  have HK2 := Lib.hid hkk
  have hg := Rv.step HP2.out.ren
  rw [hst2, ← HL.out.redE] at hg
  have HG := Lib.hid hg
  have HSm := Lib.hid hs2.same.1
  generalize E.redE = rd at *
  clear hs2 hp2 hst hst2 hb2 hkk hg HP
  simp only
  go_wp2_with fail
  refine HG.out.mono ?_
  rintro e w3 ⟨rfl, R3, hs3⟩
  have hp3 := HP2.out.right hs3
  have hk3 : w3.heap[w2.heap.size]? = some (.cells #[.int .u8 k, .int .u32 u, .int .i64 y] 67 (0, 0)) := (hs3.mod.block _ (lt_of_block HK2.out.blk) HNr.out).trans HK2.out.blk
  have hb3 : Below w3.heap.size w3 (w3.alloc (.cells #[.int .u8 k, .int .u32 u, .int .i64 y] 67)) := (Below.refl _ _).alloc (Nat.le_refl _) _
  have hk4 := (hb3.block _ (lt_of_block hk3)).trans hk3
  have HF := Lib.hid (HFin.out _ _ _ _ _ _ (hp3.below hb3) HL.out.step (by first | rfl | exact HSm.out) hs3.same)
  have kc : ∀ (i : Nat) (v : Value), (#[Value.int .u8 k, .int .u32 u, .int .i64 y] : Array Value)[i]? = some v → (w3.alloc (.cells #[.int .u8 k, .int .u32 u, .int .i64 y] 67)).cell? ⟨w2.heap.size, i, none⟩ = some v := fun i v hi => by
    unfold World.cell?
    rw [hk4]
    exact hi
  have k0 := kc 0 _ rfl
  have k1 := kc 1 _ rfl
  have k2 := kc 2 _ rfl
  have se := fun W => eqStop k u y W
  clear hs3 hp3 hk3 hb3 hk4 kc HG HP2 HK2
  simp only
  go_wp2
  exact HF.out
set_option maxRecDepth 100000 in
set_option maxHeartbeats 8000000 in
theorem does_answer (h : EPair w0 w a E b R F) (hl : En.Like E F) (x : ActR) (hx : x.ok) (hd : x.dod = 5) :
    Calls Tryz.prog 30 #[.pointer (some ⟨a.eb, 0, none⟩), .pointer (some ⟨b.eb, 0, none⟩), .agg x.cells] w (Does21 w0 w a b) := by
  have HFin : Hid (∀ a' E' b' R' F' w', EPair w0 w' a' E' b' R' F' → En.Like E' F' → a'.eb = a.eb → b'.eb = b.eb → Does21 w0 w a b (.returned (.bool true)) w') := Lib.hid fun a' E' b' R' F' w' h1 h2 h3 h4 => ⟨a', E', b', R', F', rfl, h1, h2, h3, h4⟩
  generalize Does21 w0 w a b = PQ at *
  unfold ActR.cells
  rw [hd]
  have hbb : Below w.heap.size w (w.alloc (.cells #[.int .i64 5, .int .u32 x.n, .int .u32 x.m, .string x.text] 60)) := (Below.refl _ _).alloc (Nat.le_refl _) _
  have HP := Lib.hid (h.below hbb)
  have HL := Lib.hid hl
  have HX := Lib.hid hx
  have hnr : ¬ b.foot R w.heap.size := fun g => Nat.lt_irrefl _ (h.ren.lt _ g)
  have hk : (w.alloc (.cells #[.int .i64 5, .int .u32 x.n, .int .u32 x.m, .string x.text] 60)).heap[w.heap.size]? = some (.cells #[.int .i64 5, .int .u32 x.n, .int .u32 x.m, .string x.text] 60 (0, 0)) := heap_alloc_new w _
  have HK := Lib.hid (⟨hk, hnr⟩ : _ ∧ _)
  clear h hl hx hbb hd hnr hk
  go_enter Tryz.func30, Tryz.ntmps30
  go_wp2_with fail
  refine (Rv.answer HP.out.ren x.n x.m HX.out.n0 HX.out.n1 HX.out.m0 HX.out.m1).mono ?_
  rintro e w2 ⟨rfl, hs2⟩
  have HP2 := Lib.hid (HP.out.right hs2)
  have hk2 := (hs2.mod.block _ (lt_of_block HK.out.1) HK.out.2).trans HK.out.1
  have kc : ∀ (i : Nat) (v : Value), (#[Value.int .i64 5, .int .u32 x.n, .int .u32 x.m, .string x.text] : Array Value)[i]? = some v → w2.cell? ⟨w.heap.size, i, none⟩ = some v := fun i v hi => by
    unfold World.cell?
    rw [hk2]
    exact hi
  have k1 := kc 1 _ rfl
  have k2 := kc 2 _ rfl
  have HSm := Lib.hid hs2.same
  clear hs2 hk2 kc HK HP
  go_wp2_with fail
  refine (Ev.answer HP2.out.env x.n x.m HX.out.n0 HX.out.n1 HX.out.m0 HX.out.m1).mono ?_
  rintro e w3 ⟨rfl, hs3⟩
  have HF := Lib.hid (HFin.out _ _ _ _ _ _ (HP2.out.left hs3) (HL.out.answer x.n x.m) hs3.same.1 (by first | rfl | exact HSm.out))
  clear hs3
  go_wp2
  exact HF.out
set_option maxRecDepth 100000 in
theorem does_none (h : EPair w0 w a E b R F) (hl : En.Like E F) (x : ActR) (e0 : x.dod ≠ 0) (e1 : x.dod ≠ 1) (e2 : x.dod ≠ 2) (e3 : x.dod ≠ 3) (e4 : x.dod ≠ 4) (e5 : x.dod ≠ 5) :
    Calls Tryz.prog 30 #[.pointer (some ⟨a.eb, 0, none⟩), .pointer (some ⟨b.eb, 0, none⟩), .agg x.cells] w (Does21 w0 w a b) := by
  have HFin : Hid (∀ a' E' b' R' F' w', EPair w0 w' a' E' b' R' F' → En.Like E' F' → a'.eb = a.eb → b'.eb = b.eb → Does21 w0 w a b (.returned (.bool true)) w') := Lib.hid fun a' E' b' R' F' w' h1 h2 h3 h4 => ⟨a', E', b', R', F', rfl, h1, h2, h3, h4⟩
  generalize Does21 w0 w a b = PQ at *
  unfold ActR.cells
  have hbb : Below w.heap.size w (w.alloc (.cells #[.int .i64 x.dod, .int .u32 x.n, .int .u32 x.m, .string x.text] 60)) := (Below.refl _ _).alloc (Nat.le_refl _) _
  have HF := Lib.hid (HFin.out _ _ _ _ _ _ (h.below hbb) hl rfl rfl)
  have b0 : (x.dod == 0) = false := beq_eq_false_iff_ne.2 e0
  have b1 : (x.dod == 1) = false := beq_eq_false_iff_ne.2 e1
  have b2 : (x.dod == 2) = false := beq_eq_false_iff_ne.2 e2
  have b3 : (x.dod == 3) = false := beq_eq_false_iff_ne.2 e3
  have b4 : (x.dod == 4) = false := beq_eq_false_iff_ne.2 e4
  have b5 : (x.dod == 5) = false := beq_eq_false_iff_ne.2 e5
  clear h hl hbb e0 e1 e2 e3 e4 e5
  go_enter Tryz.func30, Tryz.ntmps30
  go_wp2
  exact HF.out
/-- Any act. -/
theorem does21 (h : EPair w0 w a E b R F) (hl : En.Like E F) (x : ActR) (hx : x.ok) :
    Calls Tryz.prog 30 #[.pointer (some ⟨a.eb, 0, none⟩), .pointer (some ⟨b.eb, 0, none⟩), .agg x.cells] w (Does21 w0 w a b) := by
  by_cases e0 : x.dod = 0
  · exact does_step h hl x hx e0
  by_cases e1 : x.dod = 1
  · exact does_exit h hl x hx e1
  by_cases e2 : x.dod = 2
  · exact does_page h hl x hx e2
  by_cases e3 : x.dod = 3
  · exact does_drop h hl x hx e3
  by_cases e4 : x.dod = 4
  · exact does_put h hl x hx e4
  by_cases e5 : x.dod = 5
  · exact does_answer h hl x hx e5
  exact does_none h hl x e0 e1 e2 e3 e4 e5
end
end Cp
end Go.Proofs.YtkbhokmnbpnlbaaGreat
