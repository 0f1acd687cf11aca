/- An environment and the document's beside it; the walk of aediculelaw21.made. -/
import Derived.Test.YtkbhokmnbpnlbaaGreatRenv
import Derived.Test.YtkbhokmnbpnlbaaGreatMade06
import Derived.StillTailTactics
namespace Go.Proofs.YtkbhokmnbpnlbaaGreat
open Go.RowKit Word
set_option linter.unusedVariables false
set_option linter.unusedSimpArgs false
/-- What an act on the document's environment leaves. -/
structure RvStep (w w' : World) (b : RAt) (R : List Rp) (F : En) (b' : RAt) (R' : List Rp) (F' : En) : Prop where
  ren : Renv w' b' R' F'
  same : b'.eb = b.eb
  mod : Mod (b.foot R) w w'
  foot : ∀ k, b'.foot R' k → b.foot R k ∨ w.heap.size ≤ k
/-- Both, apart, new since w0. -/
structure EPair (w0 w : World) (a : EAt) (E : En) (b : RAt) (R : List Rp) (F : En) : Prop where
  env : Env w a E
  ren : Renv w b R F
  apart : ∀ k, a.foot E.A k → ¬ b.foot R k
  bel : Below w0.heap.size w0 w
  a0 : ∀ k, a.foot E.A k → w0.heap.size ≤ k
  b0 : ∀ k, b.foot R k → w0.heap.size ≤ k
namespace EPair
variable {w0 w w' : World} {a a' : EAt} {E E' : En} {b b' : RAt} {R R' : List Rp} {F F' : En}
theorem below (h : EPair w0 w a E b R F) (hb : Below w.heap.size w w') : EPair w0 w' a E b R F := { h with env := h.env.below hb, ren := h.ren.below hb, bel := h.bel.trans (hb.mono h.bel.size) }
theorem left (h : EPair w0 w a E b R F) (s : EStep w w' a E a' E') : EPair w0 w' a' E' b R F :=
  ⟨s.env, h.ren.keep s.mod fun k hk g => h.apart k g hk, fun k hk g => by
    rcases s.foot k hk with q | q
    · exact h.apart k q g
    · have := h.ren.lt k g; omega, s.mod.below h.bel h.bel.size fun i _ hi => h.a0 i hi, fun k hk => (s.foot k hk).elim (h.a0 k) fun g => Nat.le_trans h.bel.size g, h.b0⟩
theorem right (h : EPair w0 w a E b R F) (s : RvStep w w' b R F b' R' F') : EPair w0 w' a E b' R' F' :=
  ⟨h.env.keep s.mod fun k hk g => h.apart k hk g, s.ren, fun k hk g => by
    rcases s.foot k g with q | q
    · exact h.apart k hk q
    · have := h.env.lt k hk; omega, s.mod.below h.bel h.bel.size fun i _ hi => h.b0 i hi, h.a0, fun k hk => (s.foot k hk).elim (h.b0 k) fun g => Nat.le_trans h.bel.size g⟩
theorem weaken {w00 : World} (h : EPair w0 w a E b R F) (hb : Below w00.heap.size w00 w0) : EPair w00 w a E b R F :=
  { h with bel := hb.trans (h.bel.mono hb.size), a0 := fun k hk => Nat.le_trans hb.size (h.a0 k hk), b0 := fun k hk => Nat.le_trans hb.size (h.b0 k hk) }
end EPair
namespace Cp
theorem regsK_regs (r : List Int) (hl : r.length = 16) (h0 : rg r 0 = 0) : regsK (fun i => rg r i) 16 = r := by
  apply List.ext_getElem?
  intro n
  unfold regsK
  by_cases hn : n < 16
  · simp only [List.getElem?_map, List.getElem?_range hn, Option.map_some]
    have hr : r[n]? = some (rg r n) := by
      unfold rg
      rw [Int.toNat_natCast, List.getD, List.getElem?_eq_getElem (by omega)]
      rfl
    rw [hr]
    by_cases g : 0 < n
    · rw [if_pos ⟨g, hn⟩]
    · obtain rfl : n = 0 := by omega
      rw [if_neg (by omega)]
      exact congrArg some h0.symm
  · rw [List.getElem?_eq_none (by simp; omega), List.getElem?_eq_none (by omega)]
def m21Rel (w4 : World) (a : EAt) (E : En) (xs : Nat → Int) (vi : Value) (wr : World) : Prop :=
  ∃ i : Nat, 1 ≤ i ∧ i ≤ 16 ∧ vi = .int .i64 i ∧ EStep w4 wr a E a { E with r := regsK xs i }
/-- An environment of a state. -/
def St.env (num : Int) (x : St) : En := ⟨num, 2, 0, 0, ByteArray.empty, [], x.pgs, x.regs, x.pc⟩
/-- What made leaves. -/
def Made21 (w : World) (num : Int) (x : St) (e : Ending) (w' : World) : Prop :=
  if 1 ≤ num ∧ num ≤ 8 then ∃ a E b R F, e = .returned (.tuple #[.pointer (some ⟨a.eb, 0, none⟩), .pointer (some ⟨b.eb, 0, none⟩), .bool true]) ∧ EPair w w' a E b R F ∧ En.Like E F ∧ En.Like E (x.env num)
  else e = .returned (.tuple #[.pointer none, .pointer none, .bool true]) ∧ Below w.heap.size w w'
set_option maxRecDepth 100000 in
set_option maxHeartbeats 4000000 in
theorem made21 (w : World) (num : Int) (x : St) (hx : x.ok w) : Calls Tryz.prog 21 #[.int .i64 num, .agg x.cells] w (Made21 w num x) := by
  have hp0 := hx.p0
  have hp1 := hx.p1
  have hb : Below w.heap.size w (w.alloc (.cells x.cells 37)) := (Below.refl _ _).alloc (Nat.le_refl _) _
  have hbx : StBox (w.alloc (.cells x.cells 37)) w.heap.size x := ⟨heap_alloc_new w _⟩
  have hxW : x.ok (w.alloc (.cells x.cells 37)) := { hx with
    rrow := fun hn => by
      obtain ⟨b, off, e, hl, hc⟩ := hx.rrow hn
      exact ⟨b, off, e, Nat.lt_of_lt_of_le hl hb.size, fun i hi => (World.cell?_of_block (w := w) (hb.block b hl)).trans (hc i hi)⟩
    prow := fun hn => by
      obtain ⟨b, off, e, hl, hc⟩ := hx.prow hn
      exact ⟨b, off, e, Nat.lt_of_lt_of_le hl hb.size, fun i hi => (World.cell?_of_block (w := w) (hb.block b hl)).trans (hc i hi)⟩
    crow := hx.crow.below hb }
  have HM := Lib.hid (made _ x hxW)
  have HB := Lib.hid hb
  have HBx := Lib.hid hbx
  obtain ⟨b0, b1, b2, b3, b4, b5, b6⟩ := hbx.cells
  clear hb hbx hxW hx
  unfold St.cells at *
  by_cases hn : 1 ≤ num ∧ num ≤ 8
  · have n0 := hn.1
    have n1 := hn.2
    have HFin : Hid (∀ (a : EAt) (E : En) (b : RAt) (R : List Rp) (F : En) (w' : World), EPair w w' a E b R F → En.Like E F → En.Like E (x.env num) → Made21 w num x (.returned (.tuple #[.pointer (some ⟨a.eb, 0, none⟩), .pointer (some ⟨b.eb, 0, none⟩), .bool true])) w') := Lib.hid fun a E b R F w' h1 h2 h3 => by
      unfold Made21
      rw [if_pos hn]
      exact ⟨a, E, b, R, F, rfl, h1, h2, h3⟩
    generalize Made21 w num x = PQ at *
    clear hn
    go_enter Tryz.func21, Tryz.ntmps21
    go_wp2_with fail
    refine HM.out.mono ?_
    rintro e w2 ⟨cb, sb, mb, A, db, rb, lv, R, rfl, hd, he, hpg⟩
    have HD := Lib.hid (hd.weaken HB.out)
    have hz2 := hd.bel.size
    have HBx2 := Lib.hid (HBx.out.below hd.bel (by simp))
    obtain ⟨_, b1, _⟩ := HBx2.out.cells
    have HE := Lib.hid (⟨he, hpg⟩ : _ ∧ _)
    have HW2 : Hid (w.heap.size < w2.heap.size) := Lib.hid (by simp at hz2; omega)
    clear hd he hpg b0 b2 b3 b4 b5 b6 HM HBx hz2
    go_wp2_with fail
    refine (Ev.new HD.out.pair.sp num x.pc n0 n1 hp0 hp1).mono ?_
    rintro e w3 ⟨a, C, rfl, hv, hcc, haf, hb3⟩
    have HD3 := Lib.hid (HD.out.below hb3)
    have HBx3 := Lib.hid (HBx2.out.below hb3 HW2.out)
    obtain ⟨_, b1, _⟩ := HBx3.out.cells
    have HV := Lib.hid (⟨hv, hcc, haf, hb3⟩ : _ ∧ _ ∧ _ ∧ _)
    have HW3 : Hid (w.heap.size < w3.heap.size) := Lib.hid (Nat.lt_of_lt_of_le HW2.out hb3.size)
    clear hv hcc haf hb3 HBx2
    go_wp2_with fail
    refine (Rv.new HD3.out.pair.rp num x.pc n0 n1 hp0 hp1).mono ?_
    rintro e w4 ⟨b, S, rfl, hr, hrc, hrf, hb4⟩
    have HV4 := Lib.hid (HV.out.1.below hb4)
    have HD4 := Lib.hid (HD3.out.below hb4)
    have HR := Lib.hid (⟨hr, hrc, hrf, hb4⟩ : _ ∧ _ ∧ _ ∧ _)
    clear hr hrc hrf hb4 HD3 b1
    go_wp2_with fail
    refine (Ev.cpu HV4.out).mono ?_
    rintro e w5 ⟨rfl, rfl⟩
    go_wp2_with fail
    refine (Ev.space HV4.out).mono ?_
    rintro e w5 ⟨rfl, rfl⟩
    go_wp2
    have HRd : Hid ((∀ k, a.foot C k → w2.heap.size ≤ k) ∧ db < w2.heap.size ∧ ∀ k, Spc.foot sb mb A k → k < w2.heap.size) := Lib.hid ⟨HV.out.2.2.1, HD.out.dp.lt, fun k hk => HD.out.pair.sp.lt hk⟩
    go_loopw [16] (fun vi wr => m21Rel w4 a (En.new num x.pc C) (fun i => rg x.regs i) vi wr) (fun vi _ => 16 - (intOf vi).toNat)
    case atStart => exact ⟨1, Nat.le_refl _, by omega, by go_num, EStep.refl HV4.out⟩
    case round =>
      obtain ⟨i, hi1, hi2, rfl, hst⟩ := hrel
      have HSt := Lib.hid hst
      have hdp : Cpu 124 wr db x.regs x.pc := HD4.out.dp.keep hst.mod fun g => by have := HRd.out.1 _ g; have := HRd.out.2.1; omega
      have HDp := Lib.hid hdp
      clear hst
      by_cases hin : i < 16
      · have hc := hdp.cellReg i hin
        have hbd := rg_bd hdp.regs (i : Int)
        have hcpu := Ev.cpu HSt.out.env
        have HSR := Lib.hid (setReg_ok (HSt.out.env.below (Below.refl _ _).drew).cp i hin (rg x.regs i) hbd.1 hbd.2)
        have hi16 : (i : Int) < 16 := by omega
        clear hdp
        generalize hv : rg x.regs i = v at *
        have HvR := Lib.hid hv
        clear hv
        go_wp2_with fail
        refine wp_region_still_tail 9 (by kernel_rfl) (by kernel_rfl) ?_
        simp only [List.take_succ_cons, List.take_zero, List.drop_succ_cons, List.drop_zero]
        repeat still_step
        still_call ((Ev.cpu (HSt.out.env.below (Below.refl _ _).drew)).mono fun e w' ⟨g1, g2⟩ => ⟨g1, g2.symm⟩)
        repeat still_step
        refine wpStill_nil ?_
        change wpList _ _ _ _ _ wr.drew
        have HSd := Lib.hid (HSt.out.below (Below.refl _ _).drew)
        clear HSt hc hcpu
        generalize wr.drew = w6 at *
        go_wp2_with fail
        refine HSR.out.mono ?_
        rintro e w7 ⟨rfl, hc7, hm7⟩
        have hs7 := HSd.out.trans (EStep.regs HSd.out.env hc7 hm7)
        have HS7 : Hid (EStep w4 w7 a (En.new num x.pc C) a { En.new num x.pc C with r := regsK (fun i => rg x.regs i) (i + 1) }) := Lib.hid (by
          rw [← regsK_succ _ i hin]
          show EStep w4 w7 a (En.new num x.pc C) a { En.new num x.pc C with r := putG (regsK (fun i => rg x.regs i) i) i (rg x.regs i) }
          rw [HvR.out]
          exact hs7)
        clear hc7 hm7 hs7
        go_wp2
        exact ⟨⟨i + 1, by omega, by omega, by go_num, HS7.out⟩, by simp [intOf]; omega⟩
      · obtain rfl : i = 16 := by omega
        have z2 := HD.out.bel.size
        have z3 := HV.out.2.2.2.size
        have z4 := HR.out.2.2.2.size
        have zr := HSt.out.mod.size
        have hdl := HRd.out.2.1
        have hbe3 : w3.heap.size ≤ b.eb := HR.out.2.2.1 _ (.inl rfl)
        have ha3 : ∀ k, a.foot C k → k < w3.heap.size := fun k hk => HV.out.1.lt k hk
        have hRr : Renv wr b S (En.new num x.pc (rpgs S)) := HR.out.1.keep HSt.out.mod fun k hk g => by
          have := HR.out.2.2.1 k hk
          have := ha3 k g
          omega
        have hreg : regsK (fun i => rg x.regs i) 16 = x.regs := regsK_regs x.regs HDp.out.regs.len (by
          unfold St.regs regsK
          rfl)
        have hEw : EStep w4 wr a (En.new num x.pc C) a { En.new num x.pc C with r := x.regs } := by
          have := HSt.out
          rw [hreg] at this
          exact this
        obtain ⟨_, _, q2, _⟩ := (⟨hRr.cell 0 _ rfl, hRr.cell 1 _ rfl, hRr.cell 2 _ rfl, rfl⟩ : _ ∧ _ ∧ _ ∧ (0 = 0))
        have f2 := hRr.free 2
        have hm6 : Mod (fun i => i = b.eb) wr (wr.setCell ⟨b.eb, 2, none⟩ (.pointer (some ⟨db, 0, none⟩))) := Mod.setCell (F := fun i => i = b.eb) (Mod.refl _ _) ⟨b.eb, 2, none⟩ (.inl rfl) _
        have hR6 : Renv (wr.setCell ⟨b.eb, 2, none⟩ (.pointer (some ⟨db, 0, none⟩))) { b with cb := db } S { En.new num x.pc (rpgs S) with r := x.regs } :=
          { blk := heap_setCell_same wr b.eb 2 _ _ _ hRr.blk, cp := HDp.out.keep hm6 (by show ¬ db = b.eb; omega), rp := hRr.rp.keep hm6 (fun k hk g => hRr.es (g ▸ hk)), eq := rfl, ls := hRr.ls.keep hm6 (fun g hg => (hRr.le g hg).1) (fun g hg e => (hRr.le g hg).2.1 e), ec := by show b.eb ≠ db; omega, es := hRr.es, cs := fun g => by
              have : w3.heap.size ≤ db := HR.out.2.2.1 db (.inr (.inr (.inl g)))
              omega, le := fun g hg => ⟨Nat.lt_of_lt_of_le (hRr.le g hg).1 hm6.size, (hRr.le g hg).2.1, (by
              have := HR.out.2.2.1 _ (.inr (.inr (.inr hg)))
              show g ≠ db
              omega), (hRr.le g hg).2.2.2⟩, ok := ⟨List.Pairwise.nil, fun x hx => (nomatch hx), fun x hx => (nomatch hx), Nat.zero_le _⟩ }
        have hE6 : Env (wr.setCell ⟨b.eb, 2, none⟩ (.pointer (some ⟨db, 0, none⟩))) a { En.new num x.pc C with r := x.regs } := hEw.env.keep hm6 fun k hk g => by
          have := ha3 k hk
          omega
        have hS6 : Spc (wr.setCell ⟨b.eb, 2, none⟩ (.pointer (some ⟨db, 0, none⟩))) sb mb A := (HD4.out.pair.sp.keep hEw.mod fun k hk g => by
          have := HRd.out.2.2 k hk
          have := HRd.out.1 k g
          omega).keep hm6 fun k hk g => by
          have := HRd.out.2.2 k hk
          omega
        have hB6 : Below w.heap.size w (wr.setCell ⟨b.eb, 2, none⟩ (.pointer (some ⟨db, 0, none⟩))) := Mod.below (Mod.below ((HD.out.bel.trans (HV.out.2.2.2.mono z2)).trans (HR.out.2.2.2.mono (by omega))) hEw.mod (by omega) fun k _ hk => by
          have := HRd.out.1 k hk
          omega) hm6 (by omega) fun k _ hk => by omega
        have HMp := Lib.hid (Sp.s_map hS6 4096 7 (by omega) (by omega) (by omega) (by omega))
        have HP6 : Hid (EPair w (wr.setCell ⟨b.eb, 2, none⟩ (.pointer (some ⟨db, 0, none⟩))) a { En.new num x.pc C with r := x.regs } { b with cb := db } S { En.new num x.pc (rpgs S) with r := x.regs }) := Lib.hid ⟨hE6, hR6, fun k hk g => by
            have h1 := ha3 k hk
            have h2 := HRd.out.1 k hk
            rcases g with g | g | g | g
            · have : k = b.eb := g
              omega
            · have : k = db := g
              omega
            · have := HR.out.2.2.1 _ (.inr (.inr (.inl g)))
              omega
            · have := HR.out.2.2.1 _ (.inr (.inr (.inr g)))
              omega, hB6, fun k hk => by have := HRd.out.1 k hk; omega, fun k hk => by
            rcases hk with g | g | g | g
            · have : k = b.eb := g
              omega
            · have : k = db := g
              have := HD.out.d0
              omega
            · have := HR.out.2.2.1 _ (.inr (.inr (.inl g)))
              omega
            · have := HR.out.2.2.1 _ (.inr (.inr (.inr g)))
              omega⟩
        have HSd : Hid ((∀ k, Spc.foot sb mb A k → w.heap.size ≤ k) ∧ (∀ k, a.foot C k → ¬ Spc.foot sb mb A k) ∧ ∀ k, RAt.foot { b with cb := db } S k → ¬ Spc.foot sb mb A k) := Lib.hid ⟨HD.out.a0, fun k hk g => by
            have := HRd.out.1 k hk
            have := HRd.out.2.2 k g
            omega, fun k hk q => by
            have hq := HRd.out.2.2 k q
            rcases hk with g | g | g | g
            · have : k = b.eb := g
              omega
            · have e : k = db := g
              exact HD.out.da (e ▸ q)
            · have := HR.out.2.2.1 _ (.inr (.inr (.inl g)))
              omega
            · have := HR.out.2.2.1 _ (.inr (.inr (.inr g)))
              omega⟩
        have HLk : Hid (En.Like { En.new num x.pc C with r := x.regs } { En.new num x.pc (rpgs S) with r := x.regs } ∧ En.Like { En.new num x.pc C with r := x.regs } (x.env num)) := Lib.hid
          ⟨⟨rfl, rfl, rfl, rfl, rfl, rfl, HV.out.2.1.trans (HE.out.1.trans HR.out.2.1.symm), rfl, rfl⟩, ⟨rfl, rfl, rfl, rfl, rfl, rfl, HV.out.2.1.trans HE.out.2, rfl, rfl⟩⟩
        clear hRr hreg hEw hm6 hR6 hE6 hS6 hB6 hdp HSt HDp HR HV HD HD4 HV4 HE ha3 hbe3 hdl z2 z3 z4 zr HRd
        go_wp2_with fail
        refine HMp.out.mono ?_
        rintro e w8 ⟨blk, rfl, hs8⟩
        have HP8 : Hid (EPair w w8 a { En.new num x.pc C with r := x.regs } { b with cb := db } S { En.new num x.pc (rpgs S) with r := x.regs }) := Lib.hid
          { HP6.out with
            env := HP6.out.env.keep hs8.mod fun k hk g => HSd.out.2.1 k hk g
            ren := HP6.out.ren.keep hs8.mod fun k hk g => HSd.out.2.2 k hk g
            bel := hs8.mod.below HP6.out.bel HP6.out.bel.size fun k _ hk => HSd.out.1 k hk }
        clear hs8
        go_wp2
        refine bodyPost_ret (v := .tuple #[.pointer (some ⟨a.eb, 0, none⟩), .pointer (some ⟨b.eb, 0, none⟩), .bool true]) (by simp [results, Tryz.results21, go_sem, *]) rfl ?_
        exact HFin.out a _ { b with cb := db } S _ w8 HP8.out HLk.out.1 HLk.out.2
  · have HFin : Hid (∀ w', Below w.heap.size w w' → Made21 w num x (.returned (.tuple #[.pointer none, .pointer none, .bool true])) w') := Lib.hid fun w' h1 => by
      unfold Made21
      rw [if_neg hn]
      exact ⟨rfl, h1⟩
    generalize Made21 w num x = PQ at *
    have hn' : num < 1 ∨ 8 < num := by omega
    clear hn
    go_enter Tryz.func21, Tryz.ntmps21
    go_wp2_with fail
    refine HM.out.mono ?_
    rintro e w2 ⟨cb, sb, mb, A, db, rb, lv, R, rfl, hd, he, hpg⟩
    have hz2 := hd.bel.size
    have HBx2 := Lib.hid (HBx.out.below hd.bel (by simp))
    obtain ⟨_, b1, _⟩ := HBx2.out.cells
    have HF := Lib.hid (HB.out.trans (hd.bel.mono HB.out.size))
    clear hd he hpg b0 b2 b3 b4 b5 b6 HM HBx hz2
    go_wp2_with fail
    refine (Ev.new_arg ⟨sb, 0, none⟩ num x.pc hn' w2).mono ?_
    rintro e w3 ⟨rfl, rfl⟩
    go_wp2_with fail
    refine (Rv.new_arg ⟨rb, 0, none⟩ num x.pc hn' w2).mono ?_
    rintro e w3 ⟨rfl, rfl⟩
    go_wp2
    refine bodyPost_ret (v := .tuple #[.pointer none, .pointer none, .bool true]) (by simp [results, Tryz.results21, go_sem, *]) rfl ?_
    exact HFin.out _ HF.out
end Cp
end Go.Proofs.YtkbhokmnbpnlbaaGreat
