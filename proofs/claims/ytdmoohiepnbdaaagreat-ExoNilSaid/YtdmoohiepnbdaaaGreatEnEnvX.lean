/- EnvX, Duo, WordBytes, Reg in one text. -/
import Derived.Test.YtdmoohiepnbdaaaGreatEnPair
import Derived.Test.YtdmoohiepnbdaaaGreatEnStepW
import Derived.Test.YtdmoohiepnbdaaaGreatEnSl21
import Derived.Deep.QuietTactic
import Derived.BigQuiet
import Derived.Test.YtdmoohiepnbdaaaGreatProg
import Derived.LoopTactic
import Derived.Deep.RegionLaw
import Derived.Deep.AppendLies
import Derived.WalkSpells
import Derived.WalkLawsBesides
import Derived.OwnWalk
import Derived.Outline
import Derived.Test.YtdmoohiepnbdaaaGreatEnBase
import Derived.Deep.RegionHeld3
namespace Go.Proofs.YtdmoohiepnbdaaaGreat
open Go.RowKit Word
set_option linter.unusedVariables false
namespace Cp
open Kp (Ok)
inductive Chg (A : List Pg) (r : List Int) (pc : Int) (o : Out) : Prop
  | none (hA : o.A = A) (hr : o.r = r) (hp : o.kind = 2 → o.pc = pc)
  | reg (hk : o.kind ≠ 2) (hA : o.A = A) (d : Nat) (hd : d < 16) (v : Int) (hr : o.r = putG r d v)
  | mem (hk : o.kind ≠ 2) (hr : o.r = r) (at' : Int) (a0 : 0 ≤ at') (s : ByteArray) (hs : s.size ≤ 4) (hf : Sp.fitsB A at' s.size 2 = true) (hA : o.A = putN A at' (nums s) s.size)
theorem putL_bd (v : Int) (h0 : 0 ≤ v) (h1 : v ≤ 4294967295) : ∀ x, x ∈ putL v → 0 ≤ x ∧ x < 256 := by
  intro x hx
  simp only [putL, List.mem_cons, List.not_mem_nil, or_false] at hx
  rcases hx with rfl | rfl | rfl | rfl <;> omega
theorem chg_stores {A : List Pg} {r : List Int} (hr : Regs r) (pc : Int) (x : Ins) (n : Nat) (hn : n ≤ 4) : Chg A r pc (stores A r pc x n) := by
  unfold stores
  split
  · rename_i h
    have hb := rg_bd hr x.b
    have hl : ((putL (rg r x.b)).take n).length = n := by rw [List.length_take]; simp [putL]; omega
    have hbd : ∀ y, y ∈ (putL (rg r x.b)).take n → 0 ≤ y ∧ y < 256 := fun y hy => putL_bd _ hb.1 hb.2 y (List.mem_of_mem_take hy)
    refine .mem (by simp [goes]) rfl (addr r x) (Int.emod_nonneg _ (by omega)) (strOfNums ((putL (rg r x.b)).take n)) (by rw [size_strOfNums, hl]; exact hn) (by rw [size_strOfNums, hl]; exact h) ?_
    rw [size_strOfNums, hl, nums_strOfNums _ hbd]
    rfl
  · exact .none rfl rfl fun _ => rfl
theorem chg_loads {A : List Pg} {r : List Int} (pc : Int) (x : Ins) (n : Nat) (hd : ∃ d : Nat, d < 16 ∧ x.d = d) : Chg A r pc (loads A r pc x n) := by
  obtain ⟨d, hd, e⟩ := hd
  unfold loads
  split
  · exact .reg (by simp [goes]) rfl d hd _ (by rw [← e]; rfl)
  · exact .none rfl rfl fun _ => rfl
theorem chg_exe {A : List Pg} {r : List Int} (hr : Regs r) (pc : Int) (x : Ins) (hd : ∃ d : Nat, d < 16 ∧ x.d = d) : Chg A r pc (exe A r pc x) := by
  obtain ⟨d, hd16, e⟩ := hd
  unfold exe
  by_cases c0 : x.op ≤ 14
  · rw [if_pos c0]; exact .reg (by simp [goes]) rfl d hd16 _ (by rw [← e]; rfl)
  rw [if_neg c0]
  by_cases c1 : x.op ≤ 30
  · rw [if_pos c1]; exact .reg (by simp [goes]) rfl d hd16 _ (by rw [← e]; rfl)
  rw [if_neg c1]
  by_cases c2 : x.op = 32
  · rw [if_pos c2]; exact .reg (by simp [goes]) rfl d hd16 _ (by rw [← e]; rfl)
  rw [if_neg c2]
  by_cases c3 : x.op = 33
  · rw [if_pos c3]; exact chg_loads _ _ _ ⟨d, hd16, e⟩
  rw [if_neg c3]
  by_cases c4 : x.op = 34
  · rw [if_pos c4]; exact chg_loads _ _ _ ⟨d, hd16, e⟩
  rw [if_neg c4]
  by_cases c5 : x.op = 35
  · rw [if_pos c5]; exact chg_stores hr _ _ _ (by omega)
  rw [if_neg c5]
  by_cases c6 : x.op = 36
  · rw [if_pos c6]; exact chg_stores hr _ _ _ (by omega)
  rw [if_neg c6]
  by_cases c7 : x.op = 40
  · rw [if_pos c7]; exact .none rfl rfl fun g => absurd g (by simp [goes])
  rw [if_neg c7]
  by_cases c8 : x.op = 41
  · rw [if_pos c8]; exact .reg (by simp [goes]) rfl d hd16 _ (by rw [← e]; rfl)
  rw [if_neg c8]
  by_cases c9 : x.op = 42
  · rw [if_pos c9]; exact .none rfl rfl fun g => absurd g (by simp [goes])
  rw [if_neg c9]
  by_cases c10 : x.op = 43
  · rw [if_pos c10]; exact .none rfl rfl fun g => absurd g (by simp [goes])
  rw [if_neg c10]
  by_cases c11 : x.op = 44
  · rw [if_pos c11]; exact .none rfl rfl fun g => absurd g (by simp [goes])
  rw [if_neg c11]
  by_cases c12 : x.op = 45
  · rw [if_pos c12]; exact .none rfl rfl fun g => absurd g (by simp [goes])
  rw [if_neg c12]
  by_cases c13 : x.op = 46
  · rw [if_pos c13]; exact .none rfl rfl fun g => absurd g (by simp [goes])
  rw [if_neg c13]
  exact .none rfl rfl fun g => absurd g (by simp)
theorem chg_stp {A : List Pg} {r : List Int} (hr : Regs r) (pc : Int) : Chg A r pc (stp A r pc) := by
  unfold stp
  split
  · split
    · rename_i hd
      have hm := Ins.decB_may hd
      have hok := Ins.decI_ok (Ins.decB_size hd)
      have hsm := Ins.may_small hm hok
      generalize Ins.decI (strOfNums (Sp.getL A pc 8)) = x at *
      obtain ⟨d0, d1, _⟩ := hsm
      obtain ⟨d, hd⟩ := Int.eq_ofNat_of_zero_le d0
      exact chg_exe hr pc x ⟨d, by omega, hd⟩
    · exact .none rfl rfl fun _ => rfl
  · exact .none rfl rfl fun _ => rfl
end Cp
end Go.Proofs.YtdmoohiepnbdaaaGreat
namespace Go.Proofs.YtdmoohiepnbdaaaGreat
open Go.RowKit Word
set_option linter.unusedVariables false
set_option linter.unusedSimpArgs false
namespace Ev
section
variable {w : World} {a : EAt} {E : En}
theorem addrs_set (A : List Pg) (x v : Int) : (setByte A x v).map Pg.addr = A.map Pg.addr := by
  unfold setByte
  rw [List.map_map]
  exact List.map_congr_left fun p _ => setPg_addr x v p
theorem addrs_putN (A : List Pg) (addr : Int) (xs : List Int) : ∀ k, (putN A addr xs k).map Pg.addr = A.map Pg.addr
  | 0 => rfl
  | k + 1 => (addrs_set _ _ _).trans (addrs_putN A addr xs k)
theorem addrs_stp {A : List Pg} {r : List Int} (hr : Cp.Regs r) (pc : Int) : (Cp.stp A r pc).A.map Pg.addr = A.map Pg.addr := by
  cases Cp.chg_stp (A := A) hr pc with
  | none hA => rw [hA]
  | reg _ hA => rw [hA]
  | mem _ _ at' _ s _ _ hA => rw [hA]; exact addrs_putN _ _ _ _
set_option maxRecDepth 100000 in
set_option maxHeartbeats 4000000 in
theorem step (h : Env w a E) : Calls Tryz.prog 102 #[.pointer (some ⟨a.eb, 0, none⟩)] w fun e w' => e = .returned (.tuple #[.agg #[.int .u8 E.stop.1, .int .u32 E.stop.2.1, .int .i64 E.stop.2.2], .int .i64 E.redE]) ∧ EStep w w' a E a E.step := by
  have hbx : Below w.heap.size w (w.alloc (.cells #[.int .u8 0, .int .u32 0, .int .i64 0] 193)) := (Below.refl _ _).alloc (Nat.le_refl _) _
  have HR := Lib.hid (ready (h.below hbx))
  by_cases hk : E.kind = 2
  · have e : E.redE = 0 := by unfold En.redE; rw [if_neg (by omega)]
    rw [e] at HR ⊢
    have e1 : E.stop = ((Cp.stp E.A E.r E.pc).kind, (Cp.stp E.A E.r E.pc).num, (Cp.stp E.A E.r E.pc).why) := by unfold En.stop; rw [if_neg (by omega)]
    have hrs : Hid ((w.alloc (.cells #[.int .u8 0, .int .u32 0, .int .i64 0] 193)).heap[w.heap.size]? = some (.cells #[.int .u8 0, .int .u32 0, .int .i64 0] 193 (0, 0))) := Lib.hid (heap_alloc_new w _)
    have HW := Lib.hid (h.below hbx)
    have HWs := Lib.hid (EStep.of_below h hbx)
    have Hsz : Hid ((w.alloc (.cells #[.int .u8 0, .int .u32 0, .int .i64 0] 193)).heap.size = w.heap.size + 1) := Lib.hid (by simp)
    have HL : Hid (∀ k, a.foot E.A k → k < w.heap.size) := Lib.hid h.lt
    have ea := addrs_stp (A := E.A) h.cp.regs E.pc
    have eb := Cp.blks_stp E.A E.r E.pc
    have e2 : E.step = if (Cp.stp E.A E.r E.pc).kind = 2 then { E with A := (Cp.stp E.A E.r E.pc).A, r := (Cp.stp E.A E.r E.pc).r, pc := (Cp.stp E.A E.r E.pc).pc, kind := 4, code := 0, why := (Cp.stp E.A E.r E.pc).why } else { E with A := (Cp.stp E.A E.r E.pc).A, r := (Cp.stp E.A E.r E.pc).r, pc := (Cp.stp E.A E.r E.pc).pc } := by unfold En.step; rw [if_neg (by omega)]
    have hst : ∀ V, Env V a E → Calls Tryz.prog 181 #[.pointer (some ⟨a.cb, 0, none⟩), .pointer (some ⟨a.sb, 0, none⟩)] V (fun e w' => e = .returned (.agg #[.int .u8 (Cp.stp E.A E.r E.pc).kind, .int .u32 (Cp.stp E.A E.r E.pc).num, .int .i64 (Cp.stp E.A E.r E.pc).why]) ∧ Cpu 281 w' a.cb (Cp.stp E.A E.r E.pc).r (Cp.stp E.A E.r E.pc).pc ∧ Spc w' a.sb a.mb (Cp.stp E.A E.r E.pc).A ∧ Mod (fun k => k = a.cb ∨ Sp.pgBlk E.A k) V w') := fun V hV => Cp.step hV.cp hV.sp hV.cs
    rw [e1, e2]
    clear e e1 e2
    generalize Cp.stp E.A E.r E.pc = o at *
    obtain ⟨kind, num, why, r2, pc2, A2⟩ := o
    simp only at ea eb hst ⊢
    have HSt := Lib.hid hst
    have HEa := Lib.hid ea
    have HEb := Lib.hid eb
    clear hst ea eb hbx hk h
    go_enter Tryz.func102, Tryz.ntmps102
    go_wp2_with fail
    refine HR.out.mono ?_
    rintro e w2 ⟨rfl, rfl⟩
    clear HR
    generalize hWW : w.alloc (.cells #[.int .u8 0, .int .u32 0, .int .i64 0] 193) = W at *
    have HHW := Lib.hid hWW
    clear hWW
    obtain ⟨c0, _, c2, _, _, _, _, _⟩ := cells HW.out
    have cA := fun o => cells (HW.out.below ((Below.refl _ W).alloc (Nat.le_refl _) o))
    have cA0 := fun o => (cA o).1
    have cA2 := fun o => (cA o).2.2.1
    have HBd : Hid (∀ o, Below W.heap.size W (W.alloc o)) := Lib.hid fun o => (Below.refl _ _).alloc (Nat.le_refl _) o
    have HBx : Hid (∀ V V' : World, V.heap[W.heap.size]? = some (.cells #[.int .u8 0, .int .u32 0, .int .i64 0] 193 (0, 0)) → Mod (fun k => k = a.cb ∨ Sp.pgBlk E.A k) V V' → StpBox V' W.heap.size 0 0 0) := Lib.hid fun V V' hV hm => StpBox.mod ⟨hV⟩ hm (by
      rintro (g | g)
      · have := HW.out.cp.lt; omega
      · have := HW.out.sp.lt (.inr (.inr g)); omega)
    have HN : Hid (∀ A', Cp.blks A' = Cp.blks E.A → ¬ a.foot A' W.heap.size) := Lib.hid fun A' e g => by
      have hlt := HL.out
      have : a.foot E.A W.heap.size := by
        rcases g with q | q | q | q
        · exact .inl q
        · exact .inr (.inl q)
        · exact .inr (.inr (.inl ((Cp.foot_iff e).1 q)))
        · exact .inr (.inr (.inr q))
      have := hlt _ this
      have := Hsz.out
      omega
    clear cA
    go_upto_region 4 with fail
    go_cut [5] (fun s5 wx => ∃ B : Nat, s5 = .pointer (some ⟨B, 0, none⟩) ∧ StpBox wx B kind num why ∧ W.heap.size ≤ B ∧ EStep W wx a E a { E with A := A2, r := r2, pc := pc2 })
    case first =>
      go_region_with (go_at_call 181
                      first
                        | (have hbV := Below.refl W.heap.size W
                           (with_reducible refine (HSt.out _ (HW.out.below hbV)).mono ?_)
                           rintro e w3 ⟨rfl, hc3, hs3, hm3⟩
                           have HS3 := Lib.hid ((EStep.cpu (HW.out.below hbV) hc3 hs3 HEb.out HEa.out hm3).pre hbV))
                        | (have hbV := (Below.refl W.heap.size W).drew
                           (with_reducible refine (HSt.out _ (HW.out.below hbV)).mono ?_)
                           rintro e w3 ⟨rfl, hc3, hs3, hm3⟩
                           have HS3 := Lib.hid ((EStep.cpu (HW.out.below hbV) hc3 hs3 HEb.out HEa.out hm3).pre hbV))
                        | (have hbV := HBd.out (.cells #[.int .u8 0, .int .u32 0, .int .i64 0] 193)
                           (with_reducible refine (HSt.out _ (HW.out.below hbV)).mono ?_)
                           rintro e w3 ⟨rfl, hc3, hs3, hm3⟩
                           have HS3 := Lib.hid ((EStep.cpu (HW.out.below hbV) hc3 hs3 HEb.out HEa.out hm3).pre hbV)
                           have HB3 := Lib.hid (HBx.out _ _ (by exact heap_alloc_new W _) hm3)
                           obtain ⟨t0, t1, t2, f0, f1, f2⟩ := HB3.out.cells)
                        | (have hbV := (HBd.out (.cells #[.int .u8 0, .int .u32 0, .int .i64 0] 193)).drew
                           (with_reducible refine (HSt.out _ (HW.out.below hbV)).mono ?_)
                           rintro e w3 ⟨rfl, hc3, hs3, hm3⟩
                           have HS3 := Lib.hid ((EStep.cpu (HW.out.below hbV) hc3 hs3 HEb.out HEa.out hm3).pre hbV)
                           have HB3 := Lib.hid (HBx.out _ _ (by exact heap_alloc_new W _) hm3)
                           obtain ⟨t0, t1, t2, f0, f1, f2⟩ := HB3.out.cells))
      all_goals go_wp2_with fail
      all_goals go_meet
      all_goals first
        | exact ⟨_, rfl, ⟨heap_alloc_new w3 _⟩, HS3.out.mod.size, HS3.out.below ((Below.refl _ _).alloc (Nat.le_refl _) _)⟩
        | exact ⟨_, rfl, HB3.out.set _ _ _, Nat.le_refl _, HS3.out.turn (stp_mod _ _ _ _ _) (fun k hk => by subst hk; exact ⟨HN.out _ HEb.out, Nat.le_refl _⟩)⟩
    case rest =>
      obtain ⟨B, rfl, hbx, hB, hes⟩ := hcut
      have hnf : ¬ a.foot A2 w.heap.size := fun g => by
        rcases hes.foot _ g with q | q
        · have hh := HL.out
          have := hh _ q
          omega
        · have := Hsz.out
          omega
      have hr : StpBox wc w.heap.size 0 0 0 := ⟨(hes.mod.block _ (by have := Hsz.out; omega) (fun g => by have hh := HL.out; have := hh _ g; omega)).trans hrs.out⟩
      have hBe : B ≠ a.eb := fun e => by have hh := HL.out; have := hh _ (.inl rfl : a.foot E.A a.eb); have := Hsz.out; omega
      have hBw : B ≠ w.heap.size := fun e => by have := Hsz.out; omega
      have hwe : w.heap.size ≠ a.eb := fun e => by have hh := HL.out; have := hh _ (.inl rfl : a.foot E.A a.eb); omega
      have HE := Lib.hid (HWs.out.trans hes)
      have HNf := Lib.hid hnf
      have HLw : Hid (w.heap.size ≤ w.heap.size) := Lib.hid (Nat.le_refl _)
      clear c0 c2 cA0 cA2 HN HBx HBd HW HWs HHW hes hB hnf hrs HL HSt HEa HEb Hsz
      by_cases h2 : kind = 2
      · subst h2
        obtain ⟨_, _, _, _, k4, k5, k6, _⟩ := cells HE.out.env
        have f4 := HE.out.env.free 4
        have f5 := HE.out.env.free 5
        have f6 := HE.out.env.free 6
        have hm : Mod (fun i => i = a.eb) wc (((wc.setCell ⟨a.eb, 4, none⟩ (.int .u8 4)).setCell ⟨a.eb, 5, none⟩ (.int .u32 0)).setCell ⟨a.eb, 6, none⟩ (.int .i64 why)) := Mod.setCell (F := fun i => i = a.eb) (Mod.setCell (F := fun i => i = a.eb) (Mod.setCell (F := fun i => i = a.eb) (Mod.refl _ _) ⟨a.eb, 4, none⟩ (.inl rfl) _) ⟨a.eb, 5, none⟩ (.inl rfl) _) ⟨a.eb, 6, none⟩ (.inl rfl) _
        obtain ⟨t0, t1, t2, _, _, _⟩ := hbx.cells
        obtain ⟨y0, y1, y2, _, _, _⟩ := (hbx.mod hm hBe).cells
        obtain ⟨r0, r1, r2', g0, g1, g2⟩ := (hr.mod hm hwe).cells
        have HF := Lib.hid ((HE.out.trans (EStep.setState HE.out.env 4 0 why)).turn (stp_mod _ w.heap.size (.int .u8 2) (.int .u32 num) (.int .i64 why)) (fun k hk => by subst hk; exact ⟨HNf.out, HLw.out⟩))
        have HR2 := Lib.hid (hr.mod hm hwe)
        clear hm hbx hr HE
        go_wp2
        obtain ⟨v0, v1, v2, _, _, _⟩ := (HR2.out.set 2 num why).cells
        refine bodyPost_ret (v := .tuple #[.agg #[.int .u8 2, .int .u32 num, .int .i64 why], .int .i64 0]) (by simp [results, Tryz.results102, go_sem, *]) rfl ?_
        exact ⟨rfl, HF.out⟩
      · have H2 := Lib.hid h2
        have hkb : (kind == 2) = false := beq_eq_false_iff_ne.2 h2
        obtain ⟨t0, t1, t2, _, _, _⟩ := hbx.cells
        obtain ⟨r0, r1, r2', g0, g1, g2⟩ := hr.cells
        have HF := Lib.hid (HE.out.turn (stp_mod _ w.heap.size (.int .u8 kind) (.int .u32 num) (.int .i64 why)) (fun k hk => by subst hk; exact ⟨HNf.out, HLw.out⟩))
        have HR2 := Lib.hid hr
        clear hbx hr HE
        go_wp2
        obtain ⟨v0, v1, v2, _, _, _⟩ := (HR2.out.set kind num why).cells
        refine bodyPost_ret (v := .tuple #[.agg #[.int .u8 kind, .int .u32 num, .int .i64 why], .int .i64 0]) (by simp [results, Tryz.results102, go_sem, *]) rfl ?_
        exact ⟨rfl, HF.out⟩
  · have e : E.redE = 3 := by unfold En.redE; rw [if_pos hk]
    have e2 : E.stop = (0, 0, 0) := by unfold En.stop; rw [if_pos hk]
    have e3 : E.step = E := by unfold En.step; rw [if_pos hk]
    have HS := Lib.hid (EStep.of_below h hbx)
    rw [e] at HR ⊢
    rw [e2, e3]
    clear e e2 e3 hk h hbx
    go_enter Tryz.func102, Tryz.ntmps102
    go_wp2_with fail
    refine HR.out.mono ?_
    rintro e w2 ⟨rfl, rfl⟩
    go_wp2
    refine bodyPost_ret (v := .tuple #[.agg #[.int .u8 0, .int .u32 0, .int .i64 0], .int .i64 3]) (by simp [results, Tryz.results102, go_sem, *]) rfl ?_
    exact ⟨rfl, HS.out⟩
end
end Ev
end Go.Proofs.YtdmoohiepnbdaaaGreat
namespace Go.Proofs.YtdmoohiepnbdaaaGreat
open Go.RowKit Word
set_option linter.unusedVariables false
structure Duo (w0 w : World) (cb sb mb : Nat) (A : List Pg) (rc : List Int) (pcc : Int) (db rb : Nat) (lv : Value) (R : List Rp) (rd : List Int) (pcd : Int) : Prop where
  cp : Cpu 281 w cb rc pcc
  dp : Cpu 170 w db rd pcd
  pair : Pair w sb mb A rb lv R
  bel : Below w0.heap.size w0 w
  c0 : w0.heap.size ≤ cb
  d0 : w0.heap.size ≤ db
  a0 : ∀ k, Spc.foot sb mb A k → w0.heap.size ≤ k
  r0 : ∀ k, Rsp.foot rb lv R k → w0.heap.size ≤ k
  cd : cb ≠ db
  ca : ¬ Spc.foot sb mb A cb
  cr : ¬ Rsp.foot rb lv R cb
  da : ¬ Spc.foot sb mb A db
  dr : ¬ Rsp.foot rb lv R db
namespace Duo
variable {w0 w w' : World} {cb sb mb : Nat} {A A' : List Pg} {rc rc' : List Int} {pcc pcc' : Int} {db rb : Nat} {lv lv' : Value} {R R' : List Rp} {rd rd' : List Int} {pcd pcd' : Int}
theorem below (h : Duo w0 w cb sb mb A rc pcc db rb lv R rd pcd) (hb : Below w.heap.size w w') : Duo w0 w' cb sb mb A rc pcc db rb lv R rd pcd :=
  { h with cp := h.cp.below hb, dp := h.dp.below hb, pair := h.pair.below hb, bel := h.bel.trans (hb.mono h.bel.size) }
theorem setC (h : Duo w0 w cb sb mb A rc pcc db rb lv R rd pcd) (hc : Cpu 281 w' cb rc' pcc') (hm : Mod (fun k => k = cb) w w') : Duo w0 w' cb sb mb A rc' pcc' db rb lv R rd pcd :=
  { h with cp := hc, dp := h.dp.keep hm (fun g => h.cd g.symm), pair := ⟨h.pair.sp.keep hm (fun k hk g => h.ca (g ▸ hk)), h.pair.rp.keep hm (fun k hk g => h.cr (g ▸ hk)), h.pair.apart⟩,
           bel := hm.below h.bel h.bel.size (fun i _ hi => hi ▸ h.c0) }
theorem setD (h : Duo w0 w cb sb mb A rc pcc db rb lv R rd pcd) (hd : Cpu 170 w' db rd' pcd') (hm : Mod (fun k => k = db) w w') : Duo w0 w' cb sb mb A rc pcc db rb lv R rd' pcd' :=
  { h with cp := h.cp.keep hm h.cd, dp := hd, pair := ⟨h.pair.sp.keep hm (fun k hk g => h.da (g ▸ hk)), h.pair.rp.keep hm (fun k hk g => h.dr (g ▸ hk)), h.pair.apart⟩,
           bel := hm.below h.bel h.bel.size (fun i _ hi => hi ▸ h.d0) }
theorem left (h : Duo w0 w cb sb mb A rc pcc db rb lv R rd pcd) (s : SStep w w' sb mb A A') : Duo w0 w' cb sb mb A' rc pcc db rb lv R rd pcd :=
  { h with cp := h.cp.keep s.mod h.ca, dp := h.dp.keep s.mod h.da, pair := h.pair.left s, bel := s.mod.below h.bel h.bel.size (fun i _ hi => h.a0 i hi),
           a0 := fun k hk => (s.foot k hk).elim (h.a0 k) fun g => Nat.le_trans h.bel.size g,
           ca := fun g => (s.foot _ g).elim h.ca fun g => by have := h.cp.lt; omega,
           da := fun g => (s.foot _ g).elim h.da fun g => by have := h.dp.lt; omega }
theorem right (h : Duo w0 w cb sb mb A rc pcc db rb lv R rd pcd) (s : RStep w w' rb lv R lv' R') : Duo w0 w' cb sb mb A rc pcc db rb lv' R' rd pcd :=
  { h with cp := h.cp.keep s.mod h.cr, dp := h.dp.keep s.mod h.dr, pair := h.pair.right s, bel := s.mod.below h.bel h.bel.size (fun i _ hi => h.r0 i hi),
           r0 := fun k hk => (s.foot k hk).elim (h.r0 k) fun g => Nat.le_trans h.bel.size g,
           cr := fun g => (s.foot _ g).elim h.cr fun g => by have := h.cp.lt; omega,
           dr := fun g => (s.foot _ g).elim h.dr fun g => by have := h.dp.lt; omega }
theorem weaken {w00 : World} (h : Duo w0 w cb sb mb A rc pcc db rb lv R rd pcd) (hb : Below w00.heap.size w00 w0) : Duo w00 w cb sb mb A rc pcc db rb lv R rd pcd :=
  { h with bel := hb.trans (h.bel.mono hb.size), c0 := Nat.le_trans hb.size h.c0, d0 := Nat.le_trans hb.size h.d0, a0 := fun k hk => Nat.le_trans hb.size (h.a0 k hk), r0 := fun k hk => Nat.le_trans hb.size (h.r0 k hk) }
theorem cell (h : Duo w0 w cb sb mb A rc pcc db rb lv R rd pcd) {p : Addr} {v : Value} (hc : w0.cell? p = some v) (hp : p.block < w0.heap.size) : w.cell? p = some v := (World.cell?_of_block (w := w0) (h.bel.block _ hp)).trans hc
end Duo
namespace Cp
def regsK (xs : Nat → Int) (k : Nat) : List Int := (List.range 16).map fun i => if 0 < i ∧ i < k then xs i else 0
theorem regsK_zero (xs : Nat → Int) : regsK xs 0 = List.replicate 16 0 := rfl
theorem regsK_succ (xs : Nat → Int) (k : Nat) (hk : k < 16) : putG (regsK xs k) k (xs k) = regsK xs (k + 1) := by
  by_cases h0 : k = 0
  · subst h0
    rfl
  · rw [putG_nat _ _ _ h0]
    apply List.ext_getElem?
    intro n
    unfold regsK
    by_cases hn : n < 16
    · rw [List.getElem?_set]
      simp only [List.length_map, List.length_range, List.getElem?_map, List.getElem?_range hn, Option.map_some]
      by_cases e : k = n
      · subst e
        rw [if_pos rfl, if_pos hk, if_pos (by omega)]
      · rw [if_neg e]
        by_cases g : 0 < n ∧ n < k
        · rw [if_pos g, if_pos (by omega)]
        · rw [if_neg g, if_neg (by omega)]
    · rw [List.getElem?_eq_none (by simp; omega), List.getElem?_eq_none (by simp; omega)]
def pgsK (ps : Nat → Int) : Nat → List Pg
  | 0 => []
  | k + 1 => if ps k < 8 then Sp.mapA (pgsK ps k) (k * 256) 0 (ps k) else pgsK ps k
theorem pgsK_addr (ps : Nat → Int) : ∀ (k : Nat) (p : Pg), p ∈ pgsK ps k → p.addr < k * 256 ∧ p.addr % 256 = 0
  | 0, p, h => by cases h
  | k + 1, p, h => by
    unfold pgsK at h
    split at h
    · unfold Sp.mapA at h
      split at h
      · rcases mem_insPg.1 h with rfl | g
        · show ((k : Int) * 256) < ((k + 1 : Nat) : Int) * 256 ∧ ((k : Int) * 256) % 256 = 0
          omega
        · have := pgsK_addr ps k p g
          omega
      · have := pgsK_addr ps k p h
        omega
    · have := pgsK_addr ps k p h
      omega
theorem pgsK_free (ps : Nat → Int) (k : Nat) (hk : k ≤ 16) (h0 : 0 ≤ ps k) (h8 : ps k < 8) : Sp.mapE (pgsK ps k) (k * 256) (ps k) = 0 := by
  have hm : Sp.mayB ((k : Int) * 256) = true := by unfold Sp.mayB; rw [Bool.and_eq_true]; exact ⟨beq_iff_eq.2 (by omega), decide_eq_true (by omega)⟩
  have hn : pageAt (pgsK ps k) ((k : Int) * 256) = none := by
    unfold pageAt
    rw [show ((k : Int) * 256) - (k : Int) * 256 % 256 = (k : Int) * 256 by omega]
    refine atAddr_eq_none fun q hq => ?_
    have := pgsK_addr ps k q hq
    omega
  unfold Sp.mapE
  rw [if_neg (by rw [hm]; rintro (g | g); cases g; omega), hn]
  rfl
def madeA (ps : Nat → Int) (np : Nat) (at' : Int) (s : ByteArray) (wh : Int) (t : ByteArray) : List Pg := Sp.putA (Sp.putA (pgsK ps np) (at' % 4096) 0 s) (wh % 4096) 0 t
end Cp
end Go.Proofs.YtdmoohiepnbdaaaGreat
namespace Go.Proofs.YtdmoohiepnbdaaaGreat.WordRef
open Go.RowKit Word
set_option linter.unusedVariables false
theorem info_u8 : (Tryz.prog.info? 5).map (fun i => (i.zero, i.size, i.bytes)) = some (some (.int .u8 0), 1, 1) := by kernel_rfl
theorem putL_next (v : Int) (k : Nat) (h0 : 0 ≤ v) (h1 : v ≤ 4294967295) (hk : k < 4) : (putL v).take (k + 1) = (putL v).take k ++ [v / 256 ^ k % 256] := by
  have : k = 0 ∨ k = 1 ∨ k = 2 ∨ k = 3 := by omega
  rcases this with rfl | rfl | rfl | rfl
  · simp [putL]
  · simp [putL]
  · simp [putL]
  · simp [putL]; omega
theorem div256 (v : Int) (k : Nat) : v / 256 ^ k / 256 = v / 256 ^ (k + 1) := by
  rw [Int.ediv_ediv_of_nonneg (Int.le_of_lt (Int.pow_pos (by omega))), Int.pow_succ]
theorem putL_len (v : Int) (k : Nat) (hk : k ≤ 4) : ((putL v).take k).length = k := by rw [List.length_take]; simp [putL]; omega
def bytesRel (v : Int) (n : Nat) (W : World) (sv sb si : Value) (wr : World) : Prop :=
  ∃ (k : Nat) (x : Int), k ≤ n ∧ si = .int .i64 k ∧ sv = .int .u32 x ∧ 0 ≤ x ∧ x ≤ 4294967295 ∧ x = v / 256 ^ k ∧ Buf wr W.heap.size 5 sb ((putL v).take k) ∧ Below W.heap.size W wr
theorem Bytes (v : Int) (n : Nat) (hn : n ≤ 4) (h0 : 0 ≤ v) (h1 : v ≤ 4294967295) (w : World) :
    Calls Tryz.prog 245 #[.int .u32 v, .int .i64 n] w fun e w' => e = .returned (.string (putS v n)) ∧ Below w.heap.size w w' := by
  obtain ⟨i0, hi, hz0, hz1, hz2⟩ := info_parts info_u8
  have Hi := Lib.hid hi
  have Hz0 := Lib.hid hz0
  have Hz1 := Lib.hid hz1
  have Hz2 := Lib.hid hz2
  clear hi hz0 hz1 hz2
  go_enter Tryz.func245, Tryz.ntmps245
  go_wp2
  go_loopw [0, 5, 6] (fun sv sb si wr => bytesRel v n w sv sb si wr) (fun _ _ i _ => n - (intOf i).toNat)
  case atStart => exact ⟨0, v, by omega, rfl, rfl, h0, h1, by simp, Buf.nil _ _ _, Below.refl _ _⟩
  case round =>
    obtain ⟨k, x, hk, rfl, rfl, x0, x1, hx, hbuf, hbel⟩ := hrel
    obtain ⟨L, hL⟩ : ∃ L, (putL v).take k = L := ⟨_, rfl⟩
    rw [hL] at hbuf
    have Ho := Lib.hid hbuf
    have Hb := Lib.hid hbel
    have hbase := hbel.size
    by_cases hk2 : k < n
    · have Hx := Lib.hid hx
      have Hn := Lib.hid (putL_next v k h0 h1 (by omega))
      have Hl := Lib.hid (show L.length = k by rw [← hL]; exact putL_len v k (by omega))
      have HL := Lib.hid hL
      clear hx hbuf hbel hL
      go_wp2_with (at_builtin; refine wpList_append_lies _ (by rfl) _ _ _ (by rfl) (w.heap.size) 5 i0 (.int .u8 0) 1 1 Tryz.underlying60 Hi.out Hz0.out Hz1.out Hz2.out rfl (by omega) u5 _ _ (by rfl) (World.ownsRow.alloc Ho.out _) ⟨wr.heap.size, 0, none⟩ 1 1 [.int .u8 (x % 256)] (by rfl) (by rfl) (World.news_of_block (cs := #[.int .u8 (x % 256)]) (t := 5) (fr := (0, 0)) (heap_alloc_new wr _)) (fun x hx => by simp at hx; subst hx; rfl) (by omega) (by rw [Hl.out]; unfold maxLen; omega) (by rw [Hl.out]; omega) (by simp; omega) (wr.heap.size + 1) (by simp) ?_; intro gg cap' w' hown' hgro hat hlt)
      refine ⟨⟨k + 1, x / 256, by omega, by go_num, rfl, by omega, by omega, by rw [Hx.out]; exact div256 v k, ?_, ?_⟩, by simp [intOf]; omega⟩
      · rw [Hn.out, ← Hx.out, HL.out]; exact Buf.app hown'
      · exact (Hb.out.alloc hbase _).grown hgro (by simp; omega) (fun k hk => Buf.lt Ho.out k hk)
    · obtain rfl : k = n := by omega
      have hcs := Buf.string (P := Tryz.prog) Ho.out 60 9 Tryz.underlying60 Tryz.underlying5 Tryz.underlying9
      have HL := Lib.hid hL
      clear hx hbuf hbel hL
      go_wp2
      go_ret
      exact ⟨ret_str (by rw [← HL.out]; rfl), Hb.out⟩
end Go.Proofs.YtdmoohiepnbdaaaGreat.WordRef
namespace Go.Proofs.YtdmoohiepnbdaaaGreat
open Go.RowKit
section
variable {P : Program} {ops : Array Oper} {Q : Exit → Act → World → Prop} {md : Region.Mode} {S : World → Prop} {last : Nat}
def waitsFor (md : Region.Mode) (ops : Array Oper) (last i : Nat) : Bool := match ops[last]? with | some o => o.after.any fun e => Region.binds md e && e.on == i | none => false
def AnyE (P : Program) (md : Region.Mode) (ops : Array Oper) (Q : Exit → Act → World → Prop) (S : World → Prop) (last : Nat) : Nat → Array Bool → Act → World → Prop
  | 0, listed, a, w => Region.ready md ops listed = [] ∧ Q .normal a w
  | fuel + 1, listed, a, w =>
    (Region.ready md ops listed = [] → Q .normal a w) ∧
    ∀ i ∈ Region.ready md ops listed, wpOp P ops Q i (fun a' w' => (i ≠ last → S w') ∧ AnyE P md ops Q S last fuel (listed.setIfInBounds i true) a' w') a w
theorem any_of_E : ∀ (fuel : Nat) (listed : Array Bool) (a : Act) (w : World), AnyE P md ops Q S last fuel listed a w → wpAny P md ops Q fuel listed a w
  | 0, _, _, _, h => h
  | fuel + 1, _, _, _, h => ⟨h.1, fun i hi => wpOp_mono (fun a' w' h' => any_of_E fuel _ a' w' h'.2) (h.2 i hi)⟩
theorem last_waits {i : Nat} (hw : waitsFor md ops last i = true) {listed : Array Bool} (hi : i ∈ Region.ready md ops listed) {j : Nat} (hj : j ∈ Region.ready md ops listed) : j ≠ last := by
  rintro rfl
  obtain ⟨_, oj, hoj, hall⟩ := mem_ready.1 hj
  unfold waitsFor at hw
  rw [hoj] at hw
  simp only [Array.any_eq_true'] at hw
  obtain ⟨e, he, hb⟩ := hw
  simp only [Bool.and_eq_true, beq_iff_eq] at hb
  have h1 := hall e he hb.1
  have h0 := (mem_ready.1 hi).1
  rw [hb.2] at h1
  rcases Nat.lt_or_ge i listed.size with h' | h'
  · simp [h'] at h0 h1; rw [h0] at h1; cases h1
  · simp [Array.getElem?_eq_none h'] at h1
theorem E_first {i : Nat} {oi : Oper} {v : Value} (hi : ops[i]? = some oi) (hsel : ∀ (j : Nat) (o : Oper) cs b, ops[j]? = some o → o.op ≠ .select cs b)
    (hQ : ∀ c a w, Q (.panic c) (a.put oi.dst v) w → Q (.panic c) a w) (hwt : waitsFor md ops last i = true) :
    ∀ (fuel : Nat) (listed : Array Bool) (a : Act) (w : World),
      (∀ j oj, ops[j]? = some oj → j ≠ i → listed.getD j true = false → (∀ e ∈ oj.after, Region.binds md e = true → e.on ≠ i) → oi.apart ops oj = true) →
      i ∈ Region.ready md ops listed → YieldsIf P ops S oi v a → S w →
      AnyE P md ops Q S last fuel (listed.setIfInBounds i true) (a.put oi.dst v) w → AnyE P md ops Q S last (fuel + 1) listed a w := by
  intro fuel
  induction fuel with
  | zero =>
    intro listed a w _ hr hy hS H
    refine ⟨fun h => (by rw [h] at hr; cases hr), fun j hj => ?_⟩
    by_cases hji : j = i
    · subst hji; exact hy.wpOp hi hS ⟨fun _ => hS, H⟩
    · have := ready_mono hj hji
      rw [H.1] at this
      cases this
  | succ fuel ih =>
    intro listed a w hfree hr hy hS H
    refine ⟨fun h => (by rw [h] at hr; cases hr), fun j hj => ?_⟩
    by_cases hji : j = i
    · subst hji; exact hy.wpOp hi hS ⟨fun _ => hS, H⟩
    · have hjl := last_waits hwt hr hj
      have h1 := H.2 j (ready_mono hj hji)
      obtain ⟨hjun, oj, hoj, hall⟩ := mem_ready.1 hj
      have hnot : ∀ e ∈ oj.after, Region.binds md e = true → e.on ≠ i := fun e he hb heq => by
        have h1 := hall e he hb
        have h0 := (mem_ready.1 hr).1
        rw [heq] at h1
        rcases Nat.lt_or_ge i listed.size with h' | h'
        · simp [h'] at h0 h1; rw [h0] at h1; cases h1
        · simp [Array.getElem?_eq_none h'] at h1
      have h2 := wpOp_putIf hoj (hfree j oj hoj hji hjun hnot) (fun cs b => hsel i oi cs b hi) (fun cs b => hsel j oj cs b hoj) hQ hy h1
      have hfree' : ∀ k ok, ops[k]? = some ok → k ≠ i → (listed.setIfInBounds j true).getD k true = false →
          (∀ e ∈ ok.after, Region.binds md e = true → e.on ≠ i) → oi.apart ops ok = true := fun k ok hk hki hun hno => by
        refine hfree k ok hk hki ?_ hno
        by_cases hjk : j = k
        · subst hjk; exact hjun
        · rw [getD_set_ne true hjk] at hun; exact hun
      refine wpOp_mono (fun a' w' h3 => ⟨h3.2.1, ih (listed.setIfInBounds j true) a' w' hfree' (ready_mono hr (Ne.symm hji)) h3.1 (h3.2.1 hjl) ?_⟩) h2
      rw [Array.setIfInBounds_comm _ _ hji]
      exact h3.2.2
theorem E_take {i : Nat} {oi : Oper} {v : Value} {fuel : Nat} {listed : Array Bool} {a : Act} {w : World} (hi : ops[i]? = some oi) (hwt : waitsFor md ops last i = true)
    (hs : Region.noSelect ops = true) (hf : Region.free md ops listed i = true) (hr : (Region.ready md ops listed).contains i = true)
    (hQ : ∀ c a w, Q (.panic c) (a.put oi.dst v) w → Q (.panic c) a w) (hy : YieldsIf P ops S oi v a) (hS : S w)
    (h : AnyE P md ops Q S last fuel (listed.setIfInBounds i true) (a.put oi.dst v) w) : AnyE P md ops Q S last (fuel + 1) listed a w :=
  E_first hi (Region.noSelect_spec hs) hQ hwt fuel listed a w (Region.free_spec hi hf) (by simpa using hr) hy hS h
theorem E_step {i : Nat} {o : Oper} {fuel : Nat} {listed : Array Bool} {a : Act} {w : World} (hr : Region.ready md ops listed = [i]) (ho : ops[i]? = some o)
    (h : ∀ K' : Act → World → Prop, Shut (∀ a w, (i ≠ last → S w) → ((i ≠ last → S w) → AnyE P md ops Q S last fuel (listed.setIfInBounds i true) a w) → K' a w) → if Region.wanted o (yielded ops a.tmps) = true then Oper.wp P o a w K' Q else K' (a.put o.dst undef) w) :
    AnyE P md ops Q S last (fuel + 1) listed a w := by
  refine ⟨fun h0 => (by rw [h0] at hr; cases hr), fun j hj => ?_⟩
  rw [hr, List.mem_singleton] at hj
  subst hj
  exact wpOp_step ho (fun K' hK => h K' (fun a w hS hW => hK a w ⟨hS, hW hS⟩))
theorem E_done {listed : Array Bool} {a : Act} {w : World} (hr : Region.ready md ops listed = []) (h : Q .normal a w) : ∀ fuel, AnyE P md ops Q S last fuel listed a w
  | 0 => ⟨hr, h⟩
  | _ + 1 => ⟨fun _ => h, by rw [hr]; simp⟩
theorem wp_region_E {id : Nat} {a : Act} {w : World} (S : World → Prop) (last : Nat) (hm : P.follows .mixedOrders = true)
    (h : AnyE P .any ops Q S last ops.size (Array.replicate ops.size false) a w.drew) : (Code.region id ops true).wp P Q a w :=
  wp_region_any hm (any_of_E _ _ _ _ h)
end
end Go.Proofs.YtdmoohiepnbdaaaGreat
