/- The walk of aediculeref06.Step, whole. -/
import Derived.Test.YtldmglodjafklaaGreatStep6M
import Derived.Test.YtldmglodjafklaaGreatDuo
namespace Go.Proofs.YtldmglodjafklaaGreat
open Go.RowKit Word
set_option linter.unusedSimpArgs false
set_option linter.unusedVariables false
namespace Cp
section
variable {w : World} {db rb : Nat} {lv : Value} {R : List Rp} {r : List Int} {pc : Int}
theorem stepD (hc : Cpu 107 w db r pc) (hr : Rsp w rb lv R) (hn : ¬ Rsp.foot rb lv R db) :
    Calls Tryz.prog 29 #[.pointer (some ⟨db, 0, none⟩), .pointer (some ⟨rb, 0, none⟩)] w (SdStPost w db rb lv R (stp (rpgs R) r pc)) := by
  cases hf : Sp.fitsB (rpgs R) pc 8 4 with
  | false =>
    have e : stp (rpgs R) r pc = faults (rpgs R) r pc 50 := by unfold stp; rw [hf]; rfl
    rw [e]
    exact (stepD_fault hc hr hf).mono fun e w' ⟨g1, g2⟩ => ⟨R, g1, hc.below g2, rfl, hr.same g2, Mod.of_below g2 _, fun _ g => .inl g⟩
  | true =>
  cases hd : Ins.decB (strOfNums (Sp.getL (rpgs R) pc 8)) with
  | false =>
    have e : stp (rpgs R) r pc = faults (rpgs R) r pc 7 := by unfold stp; rw [if_pos hf, hd]; rfl
    rw [e]
    exact (stepD_form hc hr hf hd).mono fun e w' ⟨g1, g2⟩ => ⟨R, g1, hc.below g2, rfl, hr.same g2, Mod.of_below g2 _, fun _ g => .inl g⟩
  | true =>
  rw [stp_eq hf hd]
  have hm := Ins.decB_may hd
  have hok := Ins.decI_ok (Ins.decB_size hd)
  have hsm := Ins.may_small hm hok
  have hu := uses_cases (Ins.may_op hm)
  generalize hx : Ins.decI (strOfNums (Sp.getL (rpgs R) pc 8)) = x at *
  have o0 := hok.o0
  have o1 := hok.o1
  have i0 := hok.i0
  have i1 := hok.i1
  obtain ⟨op, d, a, b, imm⟩ := x
  obtain ⟨d0, d1, a0, a1, b0, b1⟩ := hsm
  simp only at o0 o1 i0 i1 d0 d1 a0 a1 b0 b1 hu
  obtain ⟨d, rfl⟩ := Int.eq_ofNat_of_zero_le d0
  obtain ⟨a, rfl⟩ := Int.eq_ofNat_of_zero_le a0
  obtain ⟨b, rfl⟩ := Int.eq_ofNat_of_zero_le b0
  have hd' : d < 16 := by omega
  have ha' : a < 16 := by omega
  have hb' : b < 16 := by omega
  rcases hu with hu | hu | rfl | rfl | rfl | rfl | rfl | rfl | rfl | rfl | rfl | rfl | rfl | rfl | rfl
  · have e : exe (rpgs R) r pc ⟨op, d, a, b, imm⟩ = goes (rpgs R) (putG r d (opv op (rg r a) (rg r b))) (next pc) := by unfold exe; rw [if_pos hu.2]
    rw [e]
    exact stepD_three hc hr hn hf hd op o0 hu.2 d a b imm hx i0 i1 hd' ha' hb'
  · have e : exe (rpgs R) r pc ⟨op, d, a, b, imm⟩ = goes (rpgs R) (putG r d (opv (op - 16) (rg r a) imm)) (next pc) := by unfold exe; rw [if_neg (by simp only; omega), if_pos hu.2]
    rw [e]
    by_cases h16 : op = 15
    · subst h16
      have := Ins.may_op hm
      exact absurd rfl this
    · exact stepD_two hc hr hn hf hd op (by omega) hu.2 d a b imm hx i0 i1 hd' ha' hb'
  · have e : exe (rpgs R) r pc ⟨32, d, a, b, imm⟩ = goes (rpgs R) (putG r d imm) (next pc) := rfl
    rw [e]
    exact stepD_li hc hr hn hf hd d a b imm hx i0 i1 hd' ha' hb'
  · have e : exe (rpgs R) r pc ⟨33, d, a, b, imm⟩ = loads (rpgs R) r pc ⟨33, d, a, b, imm⟩ 1 := rfl
    cases hq : Sp.fitsB (rpgs R) (addr r ⟨33, d, a, b, imm⟩) 1 1 with
    | true =>
      rw [exe_loads e hq]
      exact stepD_lb_yes hc hr hn hf hd d a b imm hx i0 i1 hd' ha' hb' hq
    | false =>
      rw [exe_loads' e hq]
      exact stepD_lb_no hc hr hn hf hd d a b imm hx i0 i1 hd' ha' hb' hq
  · have e : exe (rpgs R) r pc ⟨34, d, a, b, imm⟩ = loads (rpgs R) r pc ⟨34, d, a, b, imm⟩ 4 := rfl
    cases hq : Sp.fitsB (rpgs R) (addr r ⟨34, d, a, b, imm⟩) 4 1 with
    | true =>
      rw [exe_loads e hq]
      exact stepD_lw_yes hc hr hn hf hd d a b imm hx i0 i1 hd' ha' hb' hq
    | false =>
      rw [exe_loads' e hq]
      exact stepD_lw_no hc hr hn hf hd d a b imm hx i0 i1 hd' ha' hb' hq
  · have e : exe (rpgs R) r pc ⟨35, d, a, b, imm⟩ = stores (rpgs R) r pc ⟨35, d, a, b, imm⟩ 1 := rfl
    cases hq : Sp.fitsB (rpgs R) (addr r ⟨35, d, a, b, imm⟩) 1 2 with
    | true =>
      rw [exe_stores e hq]
      exact stepD_sb_yes hc hr hn hf hd d a b imm hx i0 i1 hd' ha' hb' hq
    | false =>
      rw [exe_stores' e hq]
      exact stepD_sb_no hc hr hn hf hd d a b imm hx i0 i1 hd' ha' hb' hq
  · have e : exe (rpgs R) r pc ⟨36, d, a, b, imm⟩ = stores (rpgs R) r pc ⟨36, d, a, b, imm⟩ 4 := rfl
    cases hq : Sp.fitsB (rpgs R) (addr r ⟨36, d, a, b, imm⟩) 4 2 with
    | true =>
      rw [exe_stores e hq]
      exact stepD_sw_yes hc hr hn hf hd d a b imm hx i0 i1 hd' ha' hb' hq
    | false =>
      rw [exe_stores' e hq]
      exact stepD_sw_no hc hr hn hf hd d a b imm hx i0 i1 hd' ha' hb' hq
  · have e : exe (rpgs R) r pc ⟨40, d, a, b, imm⟩ = goes (rpgs R) r imm := rfl
    rw [e]
    exact stepD_jump hc hr hn hf hd d a b imm hx i0 i1 hd' ha' hb'
  · have e : exe (rpgs R) r pc ⟨41, d, a, b, imm⟩ = goes (rpgs R) (putG r d (next pc)) imm := rfl
    rw [e]
    exact stepD_jal hc hr hn hf hd d a b imm hx i0 i1 hd' ha' hb'
  · have e : exe (rpgs R) r pc ⟨42, d, a, b, imm⟩ = goes (rpgs R) r (rg r a) := rfl
    rw [e]
    exact stepD_jr hc hr hn hf hd d a b imm hx i0 i1 hd' ha' hb'
  · have e : exe (rpgs R) r pc ⟨43, d, a, b, imm⟩ = goes (rpgs R) r (br (rg r a == rg r b) imm (next pc)) := rfl
    rw [e]
    cases hq : (rg r a == rg r b) with
    | true => exact stepD_beq_true hc hr hn hf hd d a b imm hx i0 i1 hd' ha' hb' hq
    | false => exact stepD_beq_false hc hr hn hf hd d a b imm hx i0 i1 hd' ha' hb' hq
  · have e : exe (rpgs R) r pc ⟨44, d, a, b, imm⟩ = goes (rpgs R) r (br (rg r a != rg r b) imm (next pc)) := rfl
    rw [e]
    cases hq : (rg r a != rg r b) with
    | true => exact stepD_bne_true hc hr hn hf hd d a b imm hx i0 i1 hd' ha' hb' hq
    | false => exact stepD_bne_false hc hr hn hf hd d a b imm hx i0 i1 hd' ha' hb' hq
  · have e : exe (rpgs R) r pc ⟨45, d, a, b, imm⟩ = goes (rpgs R) r (br (decide (rg r a < rg r b)) imm (next pc)) := rfl
    rw [e]
    cases hq : (decide (rg r a < rg r b)) with
    | true => exact stepD_bltu_true hc hr hn hf hd d a b imm hx i0 i1 hd' ha' hb' hq
    | false => exact stepD_bltu_false hc hr hn hf hd d a b imm hx i0 i1 hd' ha' hb' hq
  · have e : exe (rpgs R) r pc ⟨46, d, a, b, imm⟩ = goes (rpgs R) r (br (decide (rg r b ≤ rg r a)) imm (next pc)) := rfl
    rw [e]
    cases hq : (decide (rg r b ≤ rg r a)) with
    | true => exact stepD_bgeu_true hc hr hn hf hd d a b imm hx i0 i1 hd' ha' hb' hq
    | false => exact stepD_bgeu_false hc hr hn hf hd d a b imm hx i0 i1 hd' ha' hb' hq
  · have e : exe (rpgs R) r pc ⟨50, d, a, b, imm⟩ = ⟨1, imm, 0, r, next pc, rpgs R⟩ := rfl
    rw [e]
    exact stepD_sys hc hr hn hf hd d a b imm hx i0 i1 hd' ha' hb'
end
end Cp
/-- A step of the document's cpu. -/
theorem Duo.stepD {w0 w w' : World} {cb sb mb : Nat} {A : List Pg} {rc : List Int} {pcc : Int} {db rb : Nat} {lv : Value} {R R' : List Rp} {rd rd' : List Int} {pcd pcd' : Int}
    (h : Duo w0 w cb sb mb A rc pcc db rb lv R rd pcd) (hd : Cpu 107 w' db rd' pcd') (hr : Rsp w' rb lv R') (hm : Mod (fun k => k = db ∨ Rsp.foot rb lv R k) w w') (hf : ∀ k, Rsp.foot rb lv R' k → Rsp.foot rb lv R k ∨ w.heap.size ≤ k) : Duo w0 w' cb sb mb A rc pcc db rb lv R' rd' pcd' :=
  { h with
    cp := h.cp.keep hm (by rintro (g | g); exact h.cd g; exact h.cr g)
    dp := hd
    pair := ⟨h.pair.sp.keep hm (by rintro k hk (g | g); exact h.da (g ▸ hk); exact h.pair.apart k hk g), hr, fun k hk g => by
      rcases hf k g with q | q
      · exact h.pair.apart k hk q
      · have := h.pair.sp.lt hk; omega⟩
    bel := hm.below h.bel h.bel.size (by rintro i _ (g | g); exact g ▸ h.d0; exact h.r0 i g)
    r0 := fun k hk => (hf k hk).elim (h.r0 k) fun g => Nat.le_trans h.bel.size g
    cr := fun g => (hf _ g).elim h.cr fun q => by have := h.cp.lt; omega
    dr := fun g => (hf _ g).elim h.dr fun q => by have := h.dp.lt; omega }
end Go.Proofs.YtldmglodjafklaaGreat

