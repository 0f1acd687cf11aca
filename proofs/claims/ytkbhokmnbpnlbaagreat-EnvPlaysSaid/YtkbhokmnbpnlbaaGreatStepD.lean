/- StepD: Step6, Step6B, Step6M, StepD in one text. -/
import Derived.Test.YtkbhokmnbpnlbaaGreatMem6
import Derived.Test.YtkbhokmnbpnlbaaGreatCpuW
import Derived.StillTailTactics
import Derived.Test.YtkbhokmnbpnlbaaGreatDuo
/- The walk of aediculeref06.Step: what fails, and the world in which an instruction is done. -/
namespace Go.Proofs.YtkbhokmnbpnlbaaGreat
open Go.RowKit Word
set_option linter.unusedSimpArgs false
set_option linter.unusedVariables false
namespace Cp
/-- What a step of the document leaves. -/
def SdStPost (w : World) (db rb : Nat) (lv : Value) (R : List Rp) (o : Out) (e : Ending) (w' : World) : Prop :=
  ∃ R', e = .returned o.stop ∧ Cpu 124 w' db o.r o.pc ∧ rpgs R' = o.A ∧ Rsp w' rb lv R' ∧ Mod (fun k => k = db ∨ Rsp.foot rb lv R k) w w' ∧ ∀ k, Rsp.foot rb lv R' k → Rsp.foot rb lv R k ∨ w.heap.size ≤ k
section
variable {w : World} {db rb : Nat} {lv : Value} {R : List Rp} {r : List Int} {pc : Int}
set_option maxRecDepth 100000 in
theorem stepD_fault (hc : Cpu 124 w db r pc) (hr : Rsp w rb lv R) (hf : Sp.fitsB (rpgs R) pc 8 4 = false) :
    Calls Tryz.prog 152 #[.pointer (some ⟨db, 0, none⟩), .pointer (some ⟨rb, 0, none⟩)] w fun e w' => e = .returned (stopV 2 0 50) ∧ Below w.heap.size w w' := by
  have hE := fetch_no hf
  have hbW : Below w.heap.size w (w.alloc (.cells #[.int .u8 0, .int .u32 0, .int .i64 0] 67)) := (Below.refl _ _).alloc (Nat.le_refl _) _
  have hcp := (hc.below hbW).cellPc
  have hF := Rs.get_any (hr.same hbW) pc 8 4 hc.p0 hc.p1 (by omega) (by omega)
  rw [hE] at hF
  have HF := Lib.hid hF
  have HB := Lib.hid hbW
  have HR := Lib.hid (⟨heap_alloc_new w _⟩ : RsBox (w.alloc (.cells #[.int .u8 0, .int .u32 0, .int .i64 0] 67)) w.heap.size)
  clear hc hr hbW hE hf hF
  go_enter Tryz.func152, Tryz.ntmps152
  go_wp2_with fail
  refine HF.out.mono ?_
  rintro e w1 ⟨rfl, hb1⟩
  have HR1 := Lib.hid (HR.out.frame (hb1.block _ (by simp)))
  have HB1 := Lib.hid (below_th HB.out hb1)
  clear hb1
  go_wp2_with fail
  refine (faultD 50 _).mono ?_
  rintro e w2 ⟨rfl, hb2⟩
  obtain ⟨c0, c1, c2, f0, f1, f2⟩ := (HR1.out.frame (hb2.block _ (lt_of_block HR1.out.blk))).cells
  have HB2 := Lib.hid (below_th HB1.out hb2)
  clear hb2
  go_wp2
  refine bodyPost_ret (v := stopV 2 0 50) (by simp [results, Tryz.results152, go_sem, stopV, *]) rfl ⟨rfl, below_set3 HB2.out (Nat.le_refl _) _ _ _⟩
set_option maxRecDepth 100000 in
theorem stepD_form (hc : Cpu 124 w db r pc) (hr : Rsp w rb lv R) (hf : Sp.fitsB (rpgs R) pc 8 4 = true) (hd : Ins.decB (strOfNums (Sp.getL (rpgs R) pc 8)) = false) :
    Calls Tryz.prog 152 #[.pointer (some ⟨db, 0, none⟩), .pointer (some ⟨rb, 0, none⟩)] w fun e w' => e = .returned (stopV 2 0 7) ∧ Below w.heap.size w w' := by
  have hE := fetch_yes hf
  have hbW : Below w.heap.size w (w.alloc (.cells #[.int .u8 0, .int .u32 0, .int .i64 0] 67)) := (Below.refl _ _).alloc (Nat.le_refl _) _
  have hcp := (hc.below hbW).cellPc
  have hF := Rs.get_any (hr.same hbW) pc 8 4 hc.p0 hc.p1 (by omega) (by omega)
  rw [hE.1, hE.2] at hF
  have HF := Lib.hid hF
  have HB := Lib.hid hbW
  have HR := Lib.hid (⟨heap_alloc_new w _⟩ : RsBox (w.alloc (.cells #[.int .u8 0, .int .u32 0, .int .i64 0] 67)) w.heap.size)
  have HD : Hid (∀ W, Calls Tryz.prog 216 #[.string (strOfNums (Sp.getL (rpgs R) pc 8))] W fun e w' => e = .returned (.tuple #[Ins.nix.val, .int .i64 7]) ∧ Below W.heap.size W w') := Lib.hid fun W => by
    have h := Ins.decodeR (strOfNums (Sp.getL (rpgs R) pc 8)) (by rw [size_strOfNums, Sp.getL_length]; omega) W
    unfold Ins.decX Ins.decE at h
    rw [hd] at h
    exact h
  generalize strOfNums (Sp.getL (rpgs R) pc 8) = S at *
  clear hc hr hbW hE hf hF hd
  go_enter Tryz.func152, Tryz.ntmps152
  go_wp2_with fail
  refine HF.out.mono ?_
  rintro e w1 ⟨rfl, hb1⟩
  have HR1 := Lib.hid (HR.out.frame (hb1.block _ (by simp)))
  have HB1 := Lib.hid (below_th HB.out hb1)
  clear hb1
  go_wp2_with fail
  refine (HD.out _).mono ?_
  rintro e w2 ⟨rfl, hb2⟩
  have hs1 := HR1.out.blk
  have HR2 := Lib.hid (HR1.out.frame (hb2.block _ (lt_of_block hs1)))
  have HB2 := Lib.hid (below_th HB1.out hb2)
  clear hb2 hs1
  unfold Ins.nix Ins.val
  simp only
  go_wp2_with fail
  refine (faultD 7 _).mono ?_
  rintro e w3 ⟨rfl, hb3⟩
  have hlt := lt_of_block HR2.out.blk
  obtain ⟨c0, c1, c2, f0, f1, f2⟩ := (HR2.out.frame ((hb3.block _ (by simp; omega)).trans (Below.heap_alloc _ _ _ hlt))).cells
  have HB3 := Lib.hid (below_th (HB2.out.alloc HB2.out.size _) hb3)
  clear hb3
  go_wp2
  refine bodyPost_ret (v := stopV 2 0 7) (by simp [results, Tryz.results152, go_sem, stopV, *]) rfl ⟨rfl, below_set3 HB3.out (Nat.le_refl _) _ _ _⟩
end
end Cp
end Go.Proofs.YtkbhokmnbpnlbaaGreat
/- The walk of aediculeref06.Step where an instruction is done. -/
namespace Go.Proofs.YtkbhokmnbpnlbaaGreat
open Go.RowKit Word
set_option linter.unusedVariables false
set_option linter.unusedSimpArgs false
namespace Cp
/-- The world within a step: the cpu, the space, the box of the instruction, the box of the answer. -/
structure DV (w V : World) (bx : Nat) (x : Ins) (db rb : Nat) (lv : Value) (R0 R : List Rp) (r : List Int) (pc : Int) : Prop where
  cpu : Cpu 124 V db r pc
  rsp : Rsp V rb lv R
  nd : ¬ Rsp.foot rb lv R db
  box : V.heap[bx]? = some (.cells (insCells x) 144 (0, 0))
  rs : RsBox V w.heap.size
  mod : Mod (fun k => k = db ∨ Rsp.foot rb lv R0 k) w V
  foot : ∀ k, Rsp.foot rb lv R k → Rsp.foot rb lv R0 k ∨ w.heap.size ≤ k
  nb : bx ≠ db ∧ (∀ k, Rsp.foot rb lv R k → k ≠ bx ∧ k ≠ w.heap.size) ∧ db < w.heap.size ∧ w.heap.size < bx
namespace DV
variable {w V V' : World} {bx : Nat} {x : Ins} {db rb : Nat} {lv : Value} {R0 R : List Rp} {r r' : List Int} {pc pc' : Int}
theorem below (h : DV w V bx x db rb lv R0 R r pc) (hb : Below V.heap.size V V') : DV w V' bx x db rb lv R0 R r pc :=
  ⟨h.cpu.below hb, h.rsp.same hb, h.nd, (hb.block _ (lt_of_block h.box)).trans h.box, h.rs.frame (hb.block _ (lt_of_block h.rs.blk)), h.mod.same (Mod.of_below hb _), h.foot, h.nb⟩
theorem setC (h : DV w V bx x db rb lv R0 R r pc) (hc : Cpu 124 V' db r' pc') (hm : Mod (fun k => k = db) V V') : DV w V' bx x db rb lv R0 R r' pc' :=
  ⟨hc, h.rsp.keep hm (fun k hk g => h.nd (g ▸ hk)), h.nd, (hm.block _ (lt_of_block h.box) h.nb.1).trans h.box, h.rs.frame (hm.block _ (lt_of_block h.rs.blk) (fun g => by have := h.nb.2.2.1; omega)), h.mod.same (hm.mono fun k _ hk => .inl hk), h.foot, h.nb⟩
theorem cells (h : DV w V bx x db rb lv R0 R r pc) : V.cell? ⟨bx, 0, none⟩ = some (.int .u8 x.op) ∧ V.cell? ⟨bx, 1, none⟩ = some (.int .u8 x.d) ∧ V.cell? ⟨bx, 2, none⟩ = some (.int .u8 x.a) ∧ V.cell? ⟨bx, 3, none⟩ = some (.int .u8 x.b) ∧ V.cell? ⟨bx, 4, none⟩ = some (.int .u32 x.imm) := box_cells h.box
end DV
/-- What is left: the answer is laid, the step ends. -/
theorem DV.fin {w V : World} {bx : Nat} {x : Ins} {db rb : Nat} {lv : Value} {R0 R : List Rp} {r : List Int} {pc : Int} (h : DV w V bx x db rb lv R0 R r pc) (k n y : Int) :
    SdStPost w db rb lv R0 ⟨k, n, y, r, pc, rpgs R⟩ (.returned (stopV k n y)) (((V.setCell ⟨w.heap.size, 0, none⟩ (.int .u8 k)).setCell ⟨w.heap.size, 1, none⟩ (.int .u32 n)).setCell ⟨w.heap.size, 2, none⟩ (.int .i64 y)) := by
  have hn := h.nb.2.2.1
  have hne : ∀ j, j ≠ w.heap.size → (((V.setCell ⟨w.heap.size, 0, none⟩ (.int .u8 k)).setCell ⟨w.heap.size, 1, none⟩ (.int .u32 n)).setCell ⟨w.heap.size, 2, none⟩ (.int .i64 y)).heap[j]? = V.heap[j]? := fun j hj => by
    rw [Below.heap_setCell _ _ _ _ hj, Below.heap_setCell _ _ _ _ hj, Below.heap_setCell _ _ _ _ hj]
  exact ⟨R, rfl, h.cpu.frame (hne _ (by omega)), rfl, h.rsp.frame fun j hj => hne j (h.nb.2.1 j hj).2, set3_mod h.mod (Nat.le_refl _) _ _ _, h.foot⟩
theorem brV_low {r : List Int} {op d a b imm : Int} (h : op < 40) : brV r ⟨op, d, a, b, imm⟩ = false := by
  unfold brV
  simp only
  rw [if_neg (by omega), if_neg (by omega), if_neg (by omega), if_neg (by omega), if_neg (by omega)]
section
variable {w : World} {db rb : Nat} {lv : Value} {R : List Rp} {r : List Int} {pc : Int}
set_option maxRecDepth 100000 in
set_option maxHeartbeats 2000000 in
theorem stepD_three (hc : Cpu 124 w db r pc) (hr : Rsp w rb lv R) (hn : ¬ Rsp.foot rb lv R db) (hf : Sp.fitsB (rpgs R) pc 8 4 = true) (hd : Ins.decB (strOfNums (Sp.getL (rpgs R) pc 8)) = true)
    (op : Int) (o0 : 0 ≤ op) (o1 : op ≤ 14) (d a b : Nat) (imm : Int) (hx : Ins.decI (strOfNums (Sp.getL (rpgs R) pc 8)) = ⟨op, d, a, b, imm⟩) (i0 : 0 ≤ imm) (i1 : imm ≤ 4294967295) (hd16 : d < 16) (ha : a < 16) (hb : b < 16) :
    Calls Tryz.prog 152 #[.pointer (some ⟨db, 0, none⟩), .pointer (some ⟨rb, 0, none⟩)] w (SdStPost w db rb lv R (goes (rpgs R) (putG r d (opv op (rg r a) (rg r b))) (next pc))) := by
  have hva := rg_bd hc.regs a
  have hvb := rg_bd hc.regs b
  have ha1 : (a : Int) < 16 := by omega
  have hb1 : (b : Int) < 16 := by omega
  have hvo := opv_bd op _ _ hva.1 hva.2 hvb.1 hvb.2
  have ho14 := decide_eq_true o1
  have f41 : (op == 41) = false := by simp; omega
  have hE := fetch_yes hf
  have hbW : Below w.heap.size w (w.alloc (.cells #[.int .u8 0, .int .u32 0, .int .i64 0] 67)) := (Below.refl _ _).alloc (Nat.le_refl _) _
  have hcp := (hc.below hbW).cellPc
  have hF := Rs.get_any (hr.same hbW) pc 8 4 hc.p0 hc.p1 (by omega) (by omega)
  rw [hE.1, hE.2] at hF
  have HF := Lib.hid hF
  have HB := Lib.hid hbW
  have HR := Lib.hid (⟨heap_alloc_new w _⟩ : RsBox (w.alloc (.cells #[.int .u8 0, .int .u32 0, .int .i64 0] 67)) w.heap.size)
  have HD : Hid (∀ W, Calls Tryz.prog 216 #[.string (strOfNums (Sp.getL (rpgs R) pc 8))] W fun e w' => e = .returned (.tuple #[Ins.val ⟨op, d, a, b, imm⟩, .int .i64 0]) ∧ Below W.heap.size W w') := Lib.hid fun W => by
    have h := Ins.decodeR (strOfNums (Sp.getL (rpgs R) pc 8)) (by rw [size_strOfNums, Sp.getL_length]; omega) W
    unfold Ins.decX Ins.decE at h
    rw [hd, hx] at h
    exact h
  have HDV : Hid (∀ w2, Below w.heap.size w w2 → RsBox w2 w.heap.size → DV w (w2.alloc (.cells (insCells ⟨op, d, a, b, imm⟩) 144)) w2.heap.size ⟨op, d, a, b, imm⟩ db rb lv R R r pc) := Lib.hid fun w2 hb2 hr2 => by
    have hb3 : Below w2.heap.size w2 (w2.alloc (.cells (insCells ⟨op, d, a, b, imm⟩) 144)) := (Below.refl _ _).alloc (Nat.le_refl _) _
    have hl := lt_of_block hr2.blk
    have hdl := hc.lt
    exact ⟨(hc.below hb2).below hb3, (hr.same hb2).same hb3, hn, heap_alloc_new w2 _, hr2.frame (hb3.block _ hl), (Mod.of_below hb2 _).same (Mod.of_below hb3 _), fun _ g => .inl g, by omega, fun k hk => by have := hr.lt hk; omega, by omega, by omega⟩
  have HPQ : Hid (∀ V bx R' k n y r' pc', DV w V bx ⟨op, d, a, b, imm⟩ db rb lv R R' r' pc' → (⟨k, n, y, r', pc', rpgs R'⟩ : Out) = (goes (rpgs R) (putG r d (opv op (rg r a) (rg r b))) (next pc)) → SdStPost w db rb lv R (goes (rpgs R) (putG r d (opv op (rg r a) (rg r b))) (next pc)) (.returned (stopV k n y)) (((V.setCell ⟨w.heap.size, 0, none⟩ (.int .u8 k)).setCell ⟨w.heap.size, 1, none⟩ (.int .u32 n)).setCell ⟨w.heap.size, 2, none⟩ (.int .i64 y))) := Lib.hid fun V bx R' k n y r' pc' h e => by rw [← e]; exact h.fin k n y
  generalize SdStPost w db rb lv R (goes (rpgs R) (putG r d (opv op (rg r a) (rg r b))) (next pc)) = PQ at *
  generalize strOfNums (Sp.getL (rpgs R) pc 8) = S at *
  have hnx : IntKind.u32.wrap (pc + 8) = next pc := by rw [IntKind.wrap_u32']; rfl
  clear hn hbW hE hf hF hd hx
  unfold Ins.val at HD
  simp only at HD
  go_enter Tryz.func152, Tryz.ntmps152
  go_wp2_with fail
  refine HF.out.mono ?_
  rintro e w1 ⟨rfl, hb1⟩
  have HR1 := Lib.hid (HR.out.frame (hb1.block _ (by simp)))
  have HB1 := Lib.hid (below_th HB.out hb1)
  clear hb1
  go_wp2_with fail
  refine (HD.out _).mono ?_
  rintro e w2 ⟨rfl, hb2⟩
  have hs1 := HR1.out.blk
  have hR2 := HR1.out.frame (hb2.block _ (lt_of_block hs1))
  have hB2 := below_th HB1.out hb2
  have hdv := HDV.out w2 hB2 hR2
  have hq1 := (hc.below hB2).cellPc
  have hq2 : db < w2.heap.size := (hc.below hB2).lt
  unfold insCells at hdv
  simp only at hdv
  clear hb2 hs1 HDV HD HF HR HR1 HB HB1
  generalize hW3 : w2.alloc (.cells #[.int .u8 op, .int .u8 d, .int .u8 a, .int .u8 b, .int .u32 imm] 144) = w3 at *
  have H3 := Lib.hid hdv
  obtain ⟨y0, y1, y2, y3, y4⟩ := hdv.cells
  simp only at y0 y1 y2 y3 y4
  have z0 := hdv.cpu.cellPc
  have z1 := hdv.cpu.cellReg a ha
  have z2 := hdv.cpu.cellReg b hb
  have z3 := hdv.cpu.thaw 16
  clear hdv hR2 hB2 hq1 hq2
  go_wp2_with fail
  refine wp_region_still_tail 20 (by kernel_rfl) (by kernel_rfl) ?_
  simp only [List.take_succ_cons, List.take_zero, List.drop_succ_cons, List.drop_zero]
  repeat still_step
  still_call ((opD op _ _ o0 (by omega) hva.1 hva.2 hvb.1 hvb.2 _).mono fun e w' ⟨g1, g2⟩ => ⟨g1, g2.symm⟩)
  repeat still_step
  refine wpStill_nil ?_
  change wpList _ _ _ _ _ w3.drew
  have H4 := Lib.hid (H3.out.below (Below.refl _ _).drew)
  clear H3 y0 y1 y2 y3 y4 z0 z1 z2 z3
  generalize w3.drew = w4 at *
  go_wp2_with fail
  refine (putD H4.out.cpu d hd16 _ hvo.1 hvo.2).mono ?_
  rintro e w5 ⟨rfl, hc5, hm5⟩
  have hdv := H4.out.setC hc5 hm5
  obtain ⟨y0, y1, y2, y3, y4⟩ := hdv.cells
  simp only at y0 y1 y2 y3 y4
  have H5 := Lib.hid hdv
  clear hdv hc5 hm5 H4
  go_wp2_with fail
  refine (branches H5.out.cpu op d a b imm ha hb).mono ?_
  rintro e w6 ⟨rfl, hb6⟩
  have hbr : brV (putG r d (opv op (rg r a) (rg r b))) ⟨op, d, a, b, imm⟩ = false := brV_low (by omega)
  rw [hbr]
  have hdv := H5.out.below hb6
  obtain ⟨y0, y1, y2, y3, y4⟩ := hdv.cells
  simp only at y0 y1 y2 y3 y4
  have z0 := hdv.cpu.cellPc
  have z3 := hdv.cpu.thaw 16
  obtain ⟨c0, c1, c2, f0, f1, f2⟩ := hdv.rs.cells
  have hne : w.heap.size ≠ db := by have := hdv.nb.2.2.1; omega
  have H6 := Lib.hid hdv
  clear hdv hb6 hbr
  go_wp2
  refine bodyPost_ret (v := stopV 0 0 0) (by simp [results, Tryz.results152, go_sem, stopV, *]) rfl ?_
  exact HPQ.out _ _ _ 0 0 0 _ _ (H6.out.setC (H6.out.cpu.setPc (next pc) (next_bd pc).1 (next_bd pc).2) (Mod.setCell (F := fun j => j = db) (Mod.refl _ _) _ (.inl rfl) _)) rfl
set_option maxRecDepth 100000 in
set_option maxHeartbeats 2000000 in
theorem stepD_two (hc : Cpu 124 w db r pc) (hr : Rsp w rb lv R) (hn : ¬ Rsp.foot rb lv R db) (hf : Sp.fitsB (rpgs R) pc 8 4 = true) (hd : Ins.decB (strOfNums (Sp.getL (rpgs R) pc 8)) = true)
    (op : Int) (o0 : 16 ≤ op) (o1 : op ≤ 30) (d a b : Nat) (imm : Int) (hx : Ins.decI (strOfNums (Sp.getL (rpgs R) pc 8)) = ⟨op, d, a, b, imm⟩) (i0 : 0 ≤ imm) (i1 : imm ≤ 4294967295) (hd16 : d < 16) (ha : a < 16) (hb : b < 16) :
    Calls Tryz.prog 152 #[.pointer (some ⟨db, 0, none⟩), .pointer (some ⟨rb, 0, none⟩)] w (SdStPost w db rb lv R (goes (rpgs R) (putG r d (opv (op - 16) (rg r a) imm)) (next pc))) := by
  have hva := rg_bd hc.regs a
  have hvb := rg_bd hc.regs b
  have ha1 : (a : Int) < 16 := by omega
  have hb1 : (b : Int) < 16 := by omega
  have hvo := opv_bd (op - 16) (rg r a) imm hva.1 hva.2 i0 i1
  have ho14 : decide (op ≤ 14) = false := decide_eq_false (by omega)
  have ho30 := decide_eq_true o1
  have hopw : IntKind.u8.wrap (op - 16) = op - 16 := by rw [IntKind.wrap_u8]; omega
  have hopm : (op - 16) % 256 = op - 16 := by omega
  have f41 : (op == 41) = false := by simp; omega
  have hE := fetch_yes hf
  have hbW : Below w.heap.size w (w.alloc (.cells #[.int .u8 0, .int .u32 0, .int .i64 0] 67)) := (Below.refl _ _).alloc (Nat.le_refl _) _
  have hcp := (hc.below hbW).cellPc
  have hF := Rs.get_any (hr.same hbW) pc 8 4 hc.p0 hc.p1 (by omega) (by omega)
  rw [hE.1, hE.2] at hF
  have HF := Lib.hid hF
  have HB := Lib.hid hbW
  have HR := Lib.hid (⟨heap_alloc_new w _⟩ : RsBox (w.alloc (.cells #[.int .u8 0, .int .u32 0, .int .i64 0] 67)) w.heap.size)
  have HD : Hid (∀ W, Calls Tryz.prog 216 #[.string (strOfNums (Sp.getL (rpgs R) pc 8))] W fun e w' => e = .returned (.tuple #[Ins.val ⟨op, d, a, b, imm⟩, .int .i64 0]) ∧ Below W.heap.size W w') := Lib.hid fun W => by
    have h := Ins.decodeR (strOfNums (Sp.getL (rpgs R) pc 8)) (by rw [size_strOfNums, Sp.getL_length]; omega) W
    unfold Ins.decX Ins.decE at h
    rw [hd, hx] at h
    exact h
  have HDV : Hid (∀ w2, Below w.heap.size w w2 → RsBox w2 w.heap.size → DV w (w2.alloc (.cells (insCells ⟨op, d, a, b, imm⟩) 144)) w2.heap.size ⟨op, d, a, b, imm⟩ db rb lv R R r pc) := Lib.hid fun w2 hb2 hr2 => by
    have hb3 : Below w2.heap.size w2 (w2.alloc (.cells (insCells ⟨op, d, a, b, imm⟩) 144)) := (Below.refl _ _).alloc (Nat.le_refl _) _
    have hl := lt_of_block hr2.blk
    have hdl := hc.lt
    exact ⟨(hc.below hb2).below hb3, (hr.same hb2).same hb3, hn, heap_alloc_new w2 _, hr2.frame (hb3.block _ hl), (Mod.of_below hb2 _).same (Mod.of_below hb3 _), fun _ g => .inl g, by omega, fun k hk => by have := hr.lt hk; omega, by omega, by omega⟩
  have HPQ : Hid (∀ V bx R' k n y r' pc', DV w V bx ⟨op, d, a, b, imm⟩ db rb lv R R' r' pc' → (⟨k, n, y, r', pc', rpgs R'⟩ : Out) = (goes (rpgs R) (putG r d (opv (op - 16) (rg r a) imm)) (next pc)) → SdStPost w db rb lv R (goes (rpgs R) (putG r d (opv (op - 16) (rg r a) imm)) (next pc)) (.returned (stopV k n y)) (((V.setCell ⟨w.heap.size, 0, none⟩ (.int .u8 k)).setCell ⟨w.heap.size, 1, none⟩ (.int .u32 n)).setCell ⟨w.heap.size, 2, none⟩ (.int .i64 y))) := Lib.hid fun V bx R' k n y r' pc' h e => by rw [← e]; exact h.fin k n y
  generalize SdStPost w db rb lv R (goes (rpgs R) (putG r d (opv (op - 16) (rg r a) imm)) (next pc)) = PQ at *
  generalize strOfNums (Sp.getL (rpgs R) pc 8) = S at *
  have hnx : IntKind.u32.wrap (pc + 8) = next pc := by rw [IntKind.wrap_u32']; rfl
  clear hn hbW hE hf hF hd hx
  unfold Ins.val at HD
  simp only at HD
  go_enter Tryz.func152, Tryz.ntmps152
  go_wp2_with fail
  refine HF.out.mono ?_
  rintro e w1 ⟨rfl, hb1⟩
  have HR1 := Lib.hid (HR.out.frame (hb1.block _ (by simp)))
  have HB1 := Lib.hid (below_th HB.out hb1)
  clear hb1
  go_wp2_with fail
  refine (HD.out _).mono ?_
  rintro e w2 ⟨rfl, hb2⟩
  have hs1 := HR1.out.blk
  have hR2 := HR1.out.frame (hb2.block _ (lt_of_block hs1))
  have hB2 := below_th HB1.out hb2
  have hdv := HDV.out w2 hB2 hR2
  have hq1 := (hc.below hB2).cellPc
  have hq2 : db < w2.heap.size := (hc.below hB2).lt
  unfold insCells at hdv
  simp only at hdv
  clear hb2 hs1 HDV HD HF HR HR1 HB HB1
  generalize hW3 : w2.alloc (.cells #[.int .u8 op, .int .u8 d, .int .u8 a, .int .u8 b, .int .u32 imm] 144) = w3 at *
  have H3 := Lib.hid hdv
  obtain ⟨y0, y1, y2, y3, y4⟩ := hdv.cells
  simp only at y0 y1 y2 y3 y4
  have z0 := hdv.cpu.cellPc
  have z1 := hdv.cpu.cellReg a ha
  have z2 := hdv.cpu.cellReg b hb
  have z3 := hdv.cpu.thaw 16
  clear hdv hR2 hB2 hq1 hq2
  go_wp2_with fail
  refine wp_region_still_tail 16 (by kernel_rfl) (by kernel_rfl) ?_
  simp only [List.take_succ_cons, List.take_zero, List.drop_succ_cons, List.drop_zero]
  repeat still_step
  still_call ((opD (op - 16) _ _ (by omega) (by omega) hva.1 hva.2 i0 i1 _).mono fun e w' ⟨g1, g2⟩ => ⟨g1, g2.symm⟩)
  repeat still_step
  refine wpStill_nil ?_
  change wpList _ _ _ _ _ w3.drew
  have H4 := Lib.hid (H3.out.below (Below.refl _ _).drew)
  clear H3 y0 y1 y2 y3 y4 z0 z1 z2 z3
  generalize w3.drew = w4 at *
  go_wp2_with fail
  refine (putD H4.out.cpu d hd16 _ hvo.1 hvo.2).mono ?_
  rintro e w5 ⟨rfl, hc5, hm5⟩
  have hdv := H4.out.setC hc5 hm5
  obtain ⟨y0, y1, y2, y3, y4⟩ := hdv.cells
  simp only at y0 y1 y2 y3 y4
  have H5 := Lib.hid hdv
  clear hdv hc5 hm5 H4
  go_wp2_with fail
  refine (branches H5.out.cpu op d a b imm ha hb).mono ?_
  rintro e w6 ⟨rfl, hb6⟩
  have hbr : brV (putG r d (opv (op - 16) (rg r a) imm)) ⟨op, d, a, b, imm⟩ = false := brV_low (by omega)
  rw [hbr]
  have hdv := H5.out.below hb6
  obtain ⟨y0, y1, y2, y3, y4⟩ := hdv.cells
  simp only at y0 y1 y2 y3 y4
  have z0 := hdv.cpu.cellPc
  have z3 := hdv.cpu.thaw 16
  obtain ⟨c0, c1, c2, f0, f1, f2⟩ := hdv.rs.cells
  have hne : w.heap.size ≠ db := by have := hdv.nb.2.2.1; omega
  have H6 := Lib.hid hdv
  clear hdv hb6 hbr
  go_wp2
  refine bodyPost_ret (v := stopV 0 0 0) (by simp [results, Tryz.results152, go_sem, stopV, *]) rfl ?_
  exact HPQ.out _ _ _ 0 0 0 _ _ (H6.out.setC (H6.out.cpu.setPc (next pc) (next_bd pc).1 (next_bd pc).2) (Mod.setCell (F := fun j => j = db) (Mod.refl _ _) _ (.inl rfl) _)) rfl
set_option maxRecDepth 100000 in
set_option maxHeartbeats 2000000 in
theorem stepD_li (hc : Cpu 124 w db r pc) (hr : Rsp w rb lv R) (hn : ¬ Rsp.foot rb lv R db) (hf : Sp.fitsB (rpgs R) pc 8 4 = true) (hd : Ins.decB (strOfNums (Sp.getL (rpgs R) pc 8)) = true)
    (d a b : Nat) (imm : Int) (hx : Ins.decI (strOfNums (Sp.getL (rpgs R) pc 8)) = ⟨32, d, a, b, imm⟩) (i0 : 0 ≤ imm) (i1 : imm ≤ 4294967295) (hd16 : d < 16) (ha : a < 16) (hb : b < 16) :
    Calls Tryz.prog 152 #[.pointer (some ⟨db, 0, none⟩), .pointer (some ⟨rb, 0, none⟩)] w (SdStPost w db rb lv R (goes (rpgs R) (putG r d imm) (next pc))) := by
  have hva := rg_bd hc.regs a
  have hvb := rg_bd hc.regs b
  have ha1 : (a : Int) < 16 := by omega
  have hb1 : (b : Int) < 16 := by omega
  have hvi : 0 ≤ imm ∧ imm ≤ 4294967295 := ⟨i0, i1⟩
  have hE := fetch_yes hf
  have hbW : Below w.heap.size w (w.alloc (.cells #[.int .u8 0, .int .u32 0, .int .i64 0] 67)) := (Below.refl _ _).alloc (Nat.le_refl _) _
  have hcp := (hc.below hbW).cellPc
  have hF := Rs.get_any (hr.same hbW) pc 8 4 hc.p0 hc.p1 (by omega) (by omega)
  rw [hE.1, hE.2] at hF
  have HF := Lib.hid hF
  have HB := Lib.hid hbW
  have HR := Lib.hid (⟨heap_alloc_new w _⟩ : RsBox (w.alloc (.cells #[.int .u8 0, .int .u32 0, .int .i64 0] 67)) w.heap.size)
  have HD : Hid (∀ W, Calls Tryz.prog 216 #[.string (strOfNums (Sp.getL (rpgs R) pc 8))] W fun e w' => e = .returned (.tuple #[Ins.val ⟨32, d, a, b, imm⟩, .int .i64 0]) ∧ Below W.heap.size W w') := Lib.hid fun W => by
    have h := Ins.decodeR (strOfNums (Sp.getL (rpgs R) pc 8)) (by rw [size_strOfNums, Sp.getL_length]; omega) W
    unfold Ins.decX Ins.decE at h
    rw [hd, hx] at h
    exact h
  have HDV : Hid (∀ w2, Below w.heap.size w w2 → RsBox w2 w.heap.size → DV w (w2.alloc (.cells (insCells ⟨32, d, a, b, imm⟩) 144)) w2.heap.size ⟨32, d, a, b, imm⟩ db rb lv R R r pc) := Lib.hid fun w2 hb2 hr2 => by
    have hb3 : Below w2.heap.size w2 (w2.alloc (.cells (insCells ⟨32, d, a, b, imm⟩) 144)) := (Below.refl _ _).alloc (Nat.le_refl _) _
    have hl := lt_of_block hr2.blk
    have hdl := hc.lt
    exact ⟨(hc.below hb2).below hb3, (hr.same hb2).same hb3, hn, heap_alloc_new w2 _, hr2.frame (hb3.block _ hl), (Mod.of_below hb2 _).same (Mod.of_below hb3 _), fun _ g => .inl g, by omega, fun k hk => by have := hr.lt hk; omega, by omega, by omega⟩
  have HPQ : Hid (∀ V bx R' k n y r' pc', DV w V bx ⟨32, d, a, b, imm⟩ db rb lv R R' r' pc' → (⟨k, n, y, r', pc', rpgs R'⟩ : Out) = (goes (rpgs R) (putG r d imm) (next pc)) → SdStPost w db rb lv R (goes (rpgs R) (putG r d imm) (next pc)) (.returned (stopV k n y)) (((V.setCell ⟨w.heap.size, 0, none⟩ (.int .u8 k)).setCell ⟨w.heap.size, 1, none⟩ (.int .u32 n)).setCell ⟨w.heap.size, 2, none⟩ (.int .i64 y))) := Lib.hid fun V bx R' k n y r' pc' h e => by rw [← e]; exact h.fin k n y
  generalize SdStPost w db rb lv R (goes (rpgs R) (putG r d imm) (next pc)) = PQ at *
  generalize strOfNums (Sp.getL (rpgs R) pc 8) = S at *
  have hnx : IntKind.u32.wrap (pc + 8) = next pc := by rw [IntKind.wrap_u32']; rfl
  clear hn hbW hE hf hF hd hx
  unfold Ins.val at HD
  simp only at HD
  go_enter Tryz.func152, Tryz.ntmps152
  go_wp2_with fail
  refine HF.out.mono ?_
  rintro e w1 ⟨rfl, hb1⟩
  have HR1 := Lib.hid (HR.out.frame (hb1.block _ (by simp)))
  have HB1 := Lib.hid (below_th HB.out hb1)
  clear hb1
  go_wp2_with fail
  refine (HD.out _).mono ?_
  rintro e w2 ⟨rfl, hb2⟩
  have hs1 := HR1.out.blk
  have hR2 := HR1.out.frame (hb2.block _ (lt_of_block hs1))
  have hB2 := below_th HB1.out hb2
  have hdv := HDV.out w2 hB2 hR2
  have hq1 := (hc.below hB2).cellPc
  have hq2 : db < w2.heap.size := (hc.below hB2).lt
  unfold insCells at hdv
  simp only at hdv
  clear hb2 hs1 HDV HD HF HR HR1 HB HB1
  generalize hW3 : w2.alloc (.cells #[.int .u8 32, .int .u8 d, .int .u8 a, .int .u8 b, .int .u32 imm] 144) = w3 at *
  have H3 := Lib.hid hdv
  obtain ⟨y0, y1, y2, y3, y4⟩ := hdv.cells
  simp only at y0 y1 y2 y3 y4
  have z0 := hdv.cpu.cellPc
  have z1 := hdv.cpu.cellReg a ha
  have z2 := hdv.cpu.cellReg b hb
  have z3 := hdv.cpu.thaw 16
  clear hdv hR2 hB2 hq1 hq2
  have H4 := Lib.hid H3.out
  clear H3
  go_wp2_with fail
  refine (putD H4.out.cpu d hd16 _ hvi.1 hvi.2).mono ?_
  rintro e w5 ⟨rfl, hc5, hm5⟩
  have hdv := H4.out.setC hc5 hm5
  obtain ⟨y0, y1, y2, y3, y4⟩ := hdv.cells
  simp only at y0 y1 y2 y3 y4
  have H5 := Lib.hid hdv
  clear hdv hc5 hm5 H4 z0 z1 z2 z3
  go_wp2_with fail
  refine (branches H5.out.cpu 32 d a b imm ha hb).mono ?_
  rintro e w6 ⟨rfl, hb6⟩
  have hbr : brV (putG r d imm) ⟨32, d, a, b, imm⟩ = false := brV_low (by omega)
  rw [hbr]
  have hdv := H5.out.below hb6
  obtain ⟨y0, y1, y2, y3, y4⟩ := hdv.cells
  simp only at y0 y1 y2 y3 y4
  have z0 := hdv.cpu.cellPc
  have z3 := hdv.cpu.thaw 16
  obtain ⟨c0, c1, c2, f0, f1, f2⟩ := hdv.rs.cells
  have hne : w.heap.size ≠ db := by have := hdv.nb.2.2.1; omega
  have H6 := Lib.hid hdv
  clear hdv hb6 hbr
  go_wp2
  refine bodyPost_ret (v := stopV 0 0 0) (by simp [results, Tryz.results152, go_sem, stopV, *]) rfl ?_
  exact HPQ.out _ _ _ 0 0 0 _ _ (H6.out.setC (H6.out.cpu.setPc (next pc) (next_bd pc).1 (next_bd pc).2) (Mod.setCell (F := fun j => j = db) (Mod.refl _ _) _ (.inl rfl) _)) rfl
set_option maxRecDepth 100000 in
set_option maxHeartbeats 2000000 in
theorem stepD_jump (hc : Cpu 124 w db r pc) (hr : Rsp w rb lv R) (hn : ¬ Rsp.foot rb lv R db) (hf : Sp.fitsB (rpgs R) pc 8 4 = true) (hd : Ins.decB (strOfNums (Sp.getL (rpgs R) pc 8)) = true)
    (d a b : Nat) (imm : Int) (hx : Ins.decI (strOfNums (Sp.getL (rpgs R) pc 8)) = ⟨40, d, a, b, imm⟩) (i0 : 0 ≤ imm) (i1 : imm ≤ 4294967295) (hd16 : d < 16) (ha : a < 16) (hb : b < 16) :
    Calls Tryz.prog 152 #[.pointer (some ⟨db, 0, none⟩), .pointer (some ⟨rb, 0, none⟩)] w (SdStPost w db rb lv R (goes (rpgs R) r imm)) := by
  have hva := rg_bd hc.regs a
  have hvb := rg_bd hc.regs b
  have ha1 : (a : Int) < 16 := by omega
  have hb1 : (b : Int) < 16 := by omega
  have hE := fetch_yes hf
  have hbW : Below w.heap.size w (w.alloc (.cells #[.int .u8 0, .int .u32 0, .int .i64 0] 67)) := (Below.refl _ _).alloc (Nat.le_refl _) _
  have hcp := (hc.below hbW).cellPc
  have hF := Rs.get_any (hr.same hbW) pc 8 4 hc.p0 hc.p1 (by omega) (by omega)
  rw [hE.1, hE.2] at hF
  have HF := Lib.hid hF
  have HB := Lib.hid hbW
  have HR := Lib.hid (⟨heap_alloc_new w _⟩ : RsBox (w.alloc (.cells #[.int .u8 0, .int .u32 0, .int .i64 0] 67)) w.heap.size)
  have HD : Hid (∀ W, Calls Tryz.prog 216 #[.string (strOfNums (Sp.getL (rpgs R) pc 8))] W fun e w' => e = .returned (.tuple #[Ins.val ⟨40, d, a, b, imm⟩, .int .i64 0]) ∧ Below W.heap.size W w') := Lib.hid fun W => by
    have h := Ins.decodeR (strOfNums (Sp.getL (rpgs R) pc 8)) (by rw [size_strOfNums, Sp.getL_length]; omega) W
    unfold Ins.decX Ins.decE at h
    rw [hd, hx] at h
    exact h
  have HDV : Hid (∀ w2, Below w.heap.size w w2 → RsBox w2 w.heap.size → DV w (w2.alloc (.cells (insCells ⟨40, d, a, b, imm⟩) 144)) w2.heap.size ⟨40, d, a, b, imm⟩ db rb lv R R r pc) := Lib.hid fun w2 hb2 hr2 => by
    have hb3 : Below w2.heap.size w2 (w2.alloc (.cells (insCells ⟨40, d, a, b, imm⟩) 144)) := (Below.refl _ _).alloc (Nat.le_refl _) _
    have hl := lt_of_block hr2.blk
    have hdl := hc.lt
    exact ⟨(hc.below hb2).below hb3, (hr.same hb2).same hb3, hn, heap_alloc_new w2 _, hr2.frame (hb3.block _ hl), (Mod.of_below hb2 _).same (Mod.of_below hb3 _), fun _ g => .inl g, by omega, fun k hk => by have := hr.lt hk; omega, by omega, by omega⟩
  have HPQ : Hid (∀ V bx R' k n y r' pc', DV w V bx ⟨40, d, a, b, imm⟩ db rb lv R R' r' pc' → (⟨k, n, y, r', pc', rpgs R'⟩ : Out) = (goes (rpgs R) r imm) → SdStPost w db rb lv R (goes (rpgs R) r imm) (.returned (stopV k n y)) (((V.setCell ⟨w.heap.size, 0, none⟩ (.int .u8 k)).setCell ⟨w.heap.size, 1, none⟩ (.int .u32 n)).setCell ⟨w.heap.size, 2, none⟩ (.int .i64 y))) := Lib.hid fun V bx R' k n y r' pc' h e => by rw [← e]; exact h.fin k n y
  generalize SdStPost w db rb lv R (goes (rpgs R) r imm) = PQ at *
  generalize strOfNums (Sp.getL (rpgs R) pc 8) = S at *
  have hnx : IntKind.u32.wrap (pc + 8) = next pc := by rw [IntKind.wrap_u32']; rfl
  clear hn hbW hE hf hF hd hx
  unfold Ins.val at HD
  simp only at HD
  go_enter Tryz.func152, Tryz.ntmps152
  go_wp2_with fail
  refine HF.out.mono ?_
  rintro e w1 ⟨rfl, hb1⟩
  have HR1 := Lib.hid (HR.out.frame (hb1.block _ (by simp)))
  have HB1 := Lib.hid (below_th HB.out hb1)
  clear hb1
  go_wp2_with fail
  refine (HD.out _).mono ?_
  rintro e w2 ⟨rfl, hb2⟩
  have hs1 := HR1.out.blk
  have hR2 := HR1.out.frame (hb2.block _ (lt_of_block hs1))
  have hB2 := below_th HB1.out hb2
  have hdv := HDV.out w2 hB2 hR2
  have hq1 := (hc.below hB2).cellPc
  have hq2 : db < w2.heap.size := (hc.below hB2).lt
  unfold insCells at hdv
  simp only at hdv
  clear hb2 hs1 HDV HD HF HR HR1 HB HB1
  generalize hW3 : w2.alloc (.cells #[.int .u8 40, .int .u8 d, .int .u8 a, .int .u8 b, .int .u32 imm] 144) = w3 at *
  have H3 := Lib.hid hdv
  obtain ⟨y0, y1, y2, y3, y4⟩ := hdv.cells
  simp only at y0 y1 y2 y3 y4
  have z0 := hdv.cpu.cellPc
  have z1 := hdv.cpu.cellReg a ha
  have z2 := hdv.cpu.cellReg b hb
  have z3 := hdv.cpu.thaw 16
  clear hdv hR2 hB2 hq1 hq2
  go_wp2_with fail
  refine (branches H3.out.cpu 40 d a b imm ha hb).mono ?_
  rintro e w6 ⟨rfl, hb6⟩
  have hbr : brV r ⟨40, d, a, b, imm⟩ = true := rfl
  rw [hbr]
  have hdv := H3.out.below hb6
  obtain ⟨y0, y1, y2, y3, y4⟩ := hdv.cells
  simp only at y0 y1 y2 y3 y4
  have z0 := hdv.cpu.cellPc
  have z3 := hdv.cpu.thaw 16
  obtain ⟨c0, c1, c2, f0, f1, f2⟩ := hdv.rs.cells
  have hne : w.heap.size ≠ db := by have := hdv.nb.2.2.1; omega
  have H6 := Lib.hid hdv
  clear hdv hb6 hbr
  go_wp2
  refine bodyPost_ret (v := stopV 0 0 0) (by simp [results, Tryz.results152, go_sem, stopV, *]) rfl ?_
  exact HPQ.out _ _ _ 0 0 0 _ _ (H6.out.setC (H6.out.cpu.setPc imm i0 i1) (Mod.setCell (F := fun j => j = db) (Mod.refl _ _) _ (.inl rfl) _)) rfl
set_option maxRecDepth 100000 in
set_option maxHeartbeats 2000000 in
theorem stepD_jal (hc : Cpu 124 w db r pc) (hr : Rsp w rb lv R) (hn : ¬ Rsp.foot rb lv R db) (hf : Sp.fitsB (rpgs R) pc 8 4 = true) (hd : Ins.decB (strOfNums (Sp.getL (rpgs R) pc 8)) = true)
    (d a b : Nat) (imm : Int) (hx : Ins.decI (strOfNums (Sp.getL (rpgs R) pc 8)) = ⟨41, d, a, b, imm⟩) (i0 : 0 ≤ imm) (i1 : imm ≤ 4294967295) (hd16 : d < 16) (ha : a < 16) (hb : b < 16) :
    Calls Tryz.prog 152 #[.pointer (some ⟨db, 0, none⟩), .pointer (some ⟨rb, 0, none⟩)] w (SdStPost w db rb lv R (goes (rpgs R) (putG r d (next pc)) imm)) := by
  have hva := rg_bd hc.regs a
  have hvb := rg_bd hc.regs b
  have ha1 : (a : Int) < 16 := by omega
  have hb1 : (b : Int) < 16 := by omega
  have hvn := next_bd pc
  have hE := fetch_yes hf
  have hbW : Below w.heap.size w (w.alloc (.cells #[.int .u8 0, .int .u32 0, .int .i64 0] 67)) := (Below.refl _ _).alloc (Nat.le_refl _) _
  have hcp := (hc.below hbW).cellPc
  have hF := Rs.get_any (hr.same hbW) pc 8 4 hc.p0 hc.p1 (by omega) (by omega)
  rw [hE.1, hE.2] at hF
  have HF := Lib.hid hF
  have HB := Lib.hid hbW
  have HR := Lib.hid (⟨heap_alloc_new w _⟩ : RsBox (w.alloc (.cells #[.int .u8 0, .int .u32 0, .int .i64 0] 67)) w.heap.size)
  have HD : Hid (∀ W, Calls Tryz.prog 216 #[.string (strOfNums (Sp.getL (rpgs R) pc 8))] W fun e w' => e = .returned (.tuple #[Ins.val ⟨41, d, a, b, imm⟩, .int .i64 0]) ∧ Below W.heap.size W w') := Lib.hid fun W => by
    have h := Ins.decodeR (strOfNums (Sp.getL (rpgs R) pc 8)) (by rw [size_strOfNums, Sp.getL_length]; omega) W
    unfold Ins.decX Ins.decE at h
    rw [hd, hx] at h
    exact h
  have HDV : Hid (∀ w2, Below w.heap.size w w2 → RsBox w2 w.heap.size → DV w (w2.alloc (.cells (insCells ⟨41, d, a, b, imm⟩) 144)) w2.heap.size ⟨41, d, a, b, imm⟩ db rb lv R R r pc) := Lib.hid fun w2 hb2 hr2 => by
    have hb3 : Below w2.heap.size w2 (w2.alloc (.cells (insCells ⟨41, d, a, b, imm⟩) 144)) := (Below.refl _ _).alloc (Nat.le_refl _) _
    have hl := lt_of_block hr2.blk
    have hdl := hc.lt
    exact ⟨(hc.below hb2).below hb3, (hr.same hb2).same hb3, hn, heap_alloc_new w2 _, hr2.frame (hb3.block _ hl), (Mod.of_below hb2 _).same (Mod.of_below hb3 _), fun _ g => .inl g, by omega, fun k hk => by have := hr.lt hk; omega, by omega, by omega⟩
  have HPQ : Hid (∀ V bx R' k n y r' pc', DV w V bx ⟨41, d, a, b, imm⟩ db rb lv R R' r' pc' → (⟨k, n, y, r', pc', rpgs R'⟩ : Out) = (goes (rpgs R) (putG r d (next pc)) imm) → SdStPost w db rb lv R (goes (rpgs R) (putG r d (next pc)) imm) (.returned (stopV k n y)) (((V.setCell ⟨w.heap.size, 0, none⟩ (.int .u8 k)).setCell ⟨w.heap.size, 1, none⟩ (.int .u32 n)).setCell ⟨w.heap.size, 2, none⟩ (.int .i64 y))) := Lib.hid fun V bx R' k n y r' pc' h e => by rw [← e]; exact h.fin k n y
  generalize SdStPost w db rb lv R (goes (rpgs R) (putG r d (next pc)) imm) = PQ at *
  generalize strOfNums (Sp.getL (rpgs R) pc 8) = S at *
  have hnx : IntKind.u32.wrap (pc + 8) = next pc := by rw [IntKind.wrap_u32']; rfl
  clear hn hbW hE hf hF hd hx
  unfold Ins.val at HD
  simp only at HD
  go_enter Tryz.func152, Tryz.ntmps152
  go_wp2_with fail
  refine HF.out.mono ?_
  rintro e w1 ⟨rfl, hb1⟩
  have HR1 := Lib.hid (HR.out.frame (hb1.block _ (by simp)))
  have HB1 := Lib.hid (below_th HB.out hb1)
  clear hb1
  go_wp2_with fail
  refine (HD.out _).mono ?_
  rintro e w2 ⟨rfl, hb2⟩
  have hs1 := HR1.out.blk
  have hR2 := HR1.out.frame (hb2.block _ (lt_of_block hs1))
  have hB2 := below_th HB1.out hb2
  have hdv := HDV.out w2 hB2 hR2
  have hq1 := (hc.below hB2).cellPc
  have hq2 : db < w2.heap.size := (hc.below hB2).lt
  unfold insCells at hdv
  simp only at hdv
  clear hb2 hs1 HDV HD HF HR HR1 HB HB1
  generalize hW3 : w2.alloc (.cells #[.int .u8 41, .int .u8 d, .int .u8 a, .int .u8 b, .int .u32 imm] 144) = w3 at *
  have H3 := Lib.hid hdv
  obtain ⟨y0, y1, y2, y3, y4⟩ := hdv.cells
  simp only at y0 y1 y2 y3 y4
  have z0 := hdv.cpu.cellPc
  have z1 := hdv.cpu.cellReg a ha
  have z2 := hdv.cpu.cellReg b hb
  have z3 := hdv.cpu.thaw 16
  clear hdv hR2 hB2 hq1 hq2
  go_wp2_with fail
  refine (branches H3.out.cpu 41 d a b imm ha hb).mono ?_
  rintro e w6 ⟨rfl, hb6⟩
  have hbr : brV r ⟨41, d, a, b, imm⟩ = true := rfl
  rw [hbr]
  have hdv := H3.out.below hb6
  obtain ⟨y0, y1, y2, y3, y4⟩ := hdv.cells
  simp only at y0 y1 y2 y3 y4
  have H6 := Lib.hid hdv
  clear hdv hb6 hbr
  have H4 := Lib.hid H6.out
  clear H6 H3 z0 z1 z2 z3
  go_wp2_with fail
  refine (putD H4.out.cpu d hd16 _ hvn.1 hvn.2).mono ?_
  rintro e w5 ⟨rfl, hc5, hm5⟩
  have hdv := H4.out.setC hc5 hm5
  obtain ⟨y0, y1, y2, y3, y4⟩ := hdv.cells
  simp only at y0 y1 y2 y3 y4
  have z0 := hdv.cpu.cellPc
  have z3 := hdv.cpu.thaw 16
  obtain ⟨c0, c1, c2, f0, f1, f2⟩ := hdv.rs.cells
  have hne : w.heap.size ≠ db := by have := hdv.nb.2.2.1; omega
  have H5 := Lib.hid hdv
  clear hdv hc5 hm5 H4
  go_wp2
  refine bodyPost_ret (v := stopV 0 0 0) (by simp [results, Tryz.results152, go_sem, stopV, *]) rfl ?_
  exact HPQ.out _ _ _ 0 0 0 _ _ (H5.out.setC (H5.out.cpu.setPc imm i0 i1) (Mod.setCell (F := fun j => j = db) (Mod.refl _ _) _ (.inl rfl) _)) rfl
set_option maxRecDepth 100000 in
set_option maxHeartbeats 2000000 in
theorem stepD_beq_true (hc : Cpu 124 w db r pc) (hr : Rsp w rb lv R) (hn : ¬ Rsp.foot rb lv R db) (hf : Sp.fitsB (rpgs R) pc 8 4 = true) (hd : Ins.decB (strOfNums (Sp.getL (rpgs R) pc 8)) = true)
    (d a b : Nat) (imm : Int) (hx : Ins.decI (strOfNums (Sp.getL (rpgs R) pc 8)) = ⟨43, d, a, b, imm⟩) (i0 : 0 ≤ imm) (i1 : imm ≤ 4294967295) (hd16 : d < 16) (ha : a < 16) (hb : b < 16) (hcd : (rg r a == rg r b) = true) :
    Calls Tryz.prog 152 #[.pointer (some ⟨db, 0, none⟩), .pointer (some ⟨rb, 0, none⟩)] w (SdStPost w db rb lv R (goes (rpgs R) r imm)) := by
  have hva := rg_bd hc.regs a
  have hvb := rg_bd hc.regs b
  have ha1 : (a : Int) < 16 := by omega
  have hb1 : (b : Int) < 16 := by omega
  have hE := fetch_yes hf
  have hbW : Below w.heap.size w (w.alloc (.cells #[.int .u8 0, .int .u32 0, .int .i64 0] 67)) := (Below.refl _ _).alloc (Nat.le_refl _) _
  have hcp := (hc.below hbW).cellPc
  have hF := Rs.get_any (hr.same hbW) pc 8 4 hc.p0 hc.p1 (by omega) (by omega)
  rw [hE.1, hE.2] at hF
  have HF := Lib.hid hF
  have HB := Lib.hid hbW
  have HR := Lib.hid (⟨heap_alloc_new w _⟩ : RsBox (w.alloc (.cells #[.int .u8 0, .int .u32 0, .int .i64 0] 67)) w.heap.size)
  have HD : Hid (∀ W, Calls Tryz.prog 216 #[.string (strOfNums (Sp.getL (rpgs R) pc 8))] W fun e w' => e = .returned (.tuple #[Ins.val ⟨43, d, a, b, imm⟩, .int .i64 0]) ∧ Below W.heap.size W w') := Lib.hid fun W => by
    have h := Ins.decodeR (strOfNums (Sp.getL (rpgs R) pc 8)) (by rw [size_strOfNums, Sp.getL_length]; omega) W
    unfold Ins.decX Ins.decE at h
    rw [hd, hx] at h
    exact h
  have HDV : Hid (∀ w2, Below w.heap.size w w2 → RsBox w2 w.heap.size → DV w (w2.alloc (.cells (insCells ⟨43, d, a, b, imm⟩) 144)) w2.heap.size ⟨43, d, a, b, imm⟩ db rb lv R R r pc) := Lib.hid fun w2 hb2 hr2 => by
    have hb3 : Below w2.heap.size w2 (w2.alloc (.cells (insCells ⟨43, d, a, b, imm⟩) 144)) := (Below.refl _ _).alloc (Nat.le_refl _) _
    have hl := lt_of_block hr2.blk
    have hdl := hc.lt
    exact ⟨(hc.below hb2).below hb3, (hr.same hb2).same hb3, hn, heap_alloc_new w2 _, hr2.frame (hb3.block _ hl), (Mod.of_below hb2 _).same (Mod.of_below hb3 _), fun _ g => .inl g, by omega, fun k hk => by have := hr.lt hk; omega, by omega, by omega⟩
  have HPQ : Hid (∀ V bx R' k n y r' pc', DV w V bx ⟨43, d, a, b, imm⟩ db rb lv R R' r' pc' → (⟨k, n, y, r', pc', rpgs R'⟩ : Out) = (goes (rpgs R) r imm) → SdStPost w db rb lv R (goes (rpgs R) r imm) (.returned (stopV k n y)) (((V.setCell ⟨w.heap.size, 0, none⟩ (.int .u8 k)).setCell ⟨w.heap.size, 1, none⟩ (.int .u32 n)).setCell ⟨w.heap.size, 2, none⟩ (.int .i64 y))) := Lib.hid fun V bx R' k n y r' pc' h e => by rw [← e]; exact h.fin k n y
  generalize SdStPost w db rb lv R (goes (rpgs R) r imm) = PQ at *
  generalize strOfNums (Sp.getL (rpgs R) pc 8) = S at *
  have hnx : IntKind.u32.wrap (pc + 8) = next pc := by rw [IntKind.wrap_u32']; rfl
  clear hn hbW hE hf hF hd hx
  unfold Ins.val at HD
  simp only at HD
  go_enter Tryz.func152, Tryz.ntmps152
  go_wp2_with fail
  refine HF.out.mono ?_
  rintro e w1 ⟨rfl, hb1⟩
  have HR1 := Lib.hid (HR.out.frame (hb1.block _ (by simp)))
  have HB1 := Lib.hid (below_th HB.out hb1)
  clear hb1
  go_wp2_with fail
  refine (HD.out _).mono ?_
  rintro e w2 ⟨rfl, hb2⟩
  have hs1 := HR1.out.blk
  have hR2 := HR1.out.frame (hb2.block _ (lt_of_block hs1))
  have hB2 := below_th HB1.out hb2
  have hdv := HDV.out w2 hB2 hR2
  have hq1 := (hc.below hB2).cellPc
  have hq2 : db < w2.heap.size := (hc.below hB2).lt
  unfold insCells at hdv
  simp only at hdv
  clear hb2 hs1 HDV HD HF HR HR1 HB HB1
  generalize hW3 : w2.alloc (.cells #[.int .u8 43, .int .u8 d, .int .u8 a, .int .u8 b, .int .u32 imm] 144) = w3 at *
  have H3 := Lib.hid hdv
  obtain ⟨y0, y1, y2, y3, y4⟩ := hdv.cells
  simp only at y0 y1 y2 y3 y4
  have z0 := hdv.cpu.cellPc
  have z1 := hdv.cpu.cellReg a ha
  have z2 := hdv.cpu.cellReg b hb
  have z3 := hdv.cpu.thaw 16
  clear hdv hR2 hB2 hq1 hq2
  go_wp2_with fail
  refine (branches H3.out.cpu 43 d a b imm ha hb).mono ?_
  rintro e w6 ⟨rfl, hb6⟩
  have hbr : brV r ⟨43, d, a, b, imm⟩ = true := hcd
  rw [hbr]
  have hdv := H3.out.below hb6
  obtain ⟨y0, y1, y2, y3, y4⟩ := hdv.cells
  simp only at y0 y1 y2 y3 y4
  have z0 := hdv.cpu.cellPc
  have z3 := hdv.cpu.thaw 16
  obtain ⟨c0, c1, c2, f0, f1, f2⟩ := hdv.rs.cells
  have hne : w.heap.size ≠ db := by have := hdv.nb.2.2.1; omega
  have H6 := Lib.hid hdv
  clear hdv hb6 hbr
  go_wp2
  refine bodyPost_ret (v := stopV 0 0 0) (by simp [results, Tryz.results152, go_sem, stopV, *]) rfl ?_
  exact HPQ.out _ _ _ 0 0 0 _ _ (H6.out.setC (H6.out.cpu.setPc imm i0 i1) (Mod.setCell (F := fun j => j = db) (Mod.refl _ _) _ (.inl rfl) _)) rfl
set_option maxRecDepth 100000 in
set_option maxHeartbeats 2000000 in
theorem stepD_beq_false (hc : Cpu 124 w db r pc) (hr : Rsp w rb lv R) (hn : ¬ Rsp.foot rb lv R db) (hf : Sp.fitsB (rpgs R) pc 8 4 = true) (hd : Ins.decB (strOfNums (Sp.getL (rpgs R) pc 8)) = true)
    (d a b : Nat) (imm : Int) (hx : Ins.decI (strOfNums (Sp.getL (rpgs R) pc 8)) = ⟨43, d, a, b, imm⟩) (i0 : 0 ≤ imm) (i1 : imm ≤ 4294967295) (hd16 : d < 16) (ha : a < 16) (hb : b < 16) (hcd : (rg r a == rg r b) = false) :
    Calls Tryz.prog 152 #[.pointer (some ⟨db, 0, none⟩), .pointer (some ⟨rb, 0, none⟩)] w (SdStPost w db rb lv R (goes (rpgs R) r (next pc))) := by
  have hva := rg_bd hc.regs a
  have hvb := rg_bd hc.regs b
  have ha1 : (a : Int) < 16 := by omega
  have hb1 : (b : Int) < 16 := by omega
  have hE := fetch_yes hf
  have hbW : Below w.heap.size w (w.alloc (.cells #[.int .u8 0, .int .u32 0, .int .i64 0] 67)) := (Below.refl _ _).alloc (Nat.le_refl _) _
  have hcp := (hc.below hbW).cellPc
  have hF := Rs.get_any (hr.same hbW) pc 8 4 hc.p0 hc.p1 (by omega) (by omega)
  rw [hE.1, hE.2] at hF
  have HF := Lib.hid hF
  have HB := Lib.hid hbW
  have HR := Lib.hid (⟨heap_alloc_new w _⟩ : RsBox (w.alloc (.cells #[.int .u8 0, .int .u32 0, .int .i64 0] 67)) w.heap.size)
  have HD : Hid (∀ W, Calls Tryz.prog 216 #[.string (strOfNums (Sp.getL (rpgs R) pc 8))] W fun e w' => e = .returned (.tuple #[Ins.val ⟨43, d, a, b, imm⟩, .int .i64 0]) ∧ Below W.heap.size W w') := Lib.hid fun W => by
    have h := Ins.decodeR (strOfNums (Sp.getL (rpgs R) pc 8)) (by rw [size_strOfNums, Sp.getL_length]; omega) W
    unfold Ins.decX Ins.decE at h
    rw [hd, hx] at h
    exact h
  have HDV : Hid (∀ w2, Below w.heap.size w w2 → RsBox w2 w.heap.size → DV w (w2.alloc (.cells (insCells ⟨43, d, a, b, imm⟩) 144)) w2.heap.size ⟨43, d, a, b, imm⟩ db rb lv R R r pc) := Lib.hid fun w2 hb2 hr2 => by
    have hb3 : Below w2.heap.size w2 (w2.alloc (.cells (insCells ⟨43, d, a, b, imm⟩) 144)) := (Below.refl _ _).alloc (Nat.le_refl _) _
    have hl := lt_of_block hr2.blk
    have hdl := hc.lt
    exact ⟨(hc.below hb2).below hb3, (hr.same hb2).same hb3, hn, heap_alloc_new w2 _, hr2.frame (hb3.block _ hl), (Mod.of_below hb2 _).same (Mod.of_below hb3 _), fun _ g => .inl g, by omega, fun k hk => by have := hr.lt hk; omega, by omega, by omega⟩
  have HPQ : Hid (∀ V bx R' k n y r' pc', DV w V bx ⟨43, d, a, b, imm⟩ db rb lv R R' r' pc' → (⟨k, n, y, r', pc', rpgs R'⟩ : Out) = (goes (rpgs R) r (next pc)) → SdStPost w db rb lv R (goes (rpgs R) r (next pc)) (.returned (stopV k n y)) (((V.setCell ⟨w.heap.size, 0, none⟩ (.int .u8 k)).setCell ⟨w.heap.size, 1, none⟩ (.int .u32 n)).setCell ⟨w.heap.size, 2, none⟩ (.int .i64 y))) := Lib.hid fun V bx R' k n y r' pc' h e => by rw [← e]; exact h.fin k n y
  generalize SdStPost w db rb lv R (goes (rpgs R) r (next pc)) = PQ at *
  generalize strOfNums (Sp.getL (rpgs R) pc 8) = S at *
  have hnx : IntKind.u32.wrap (pc + 8) = next pc := by rw [IntKind.wrap_u32']; rfl
  clear hn hbW hE hf hF hd hx
  unfold Ins.val at HD
  simp only at HD
  go_enter Tryz.func152, Tryz.ntmps152
  go_wp2_with fail
  refine HF.out.mono ?_
  rintro e w1 ⟨rfl, hb1⟩
  have HR1 := Lib.hid (HR.out.frame (hb1.block _ (by simp)))
  have HB1 := Lib.hid (below_th HB.out hb1)
  clear hb1
  go_wp2_with fail
  refine (HD.out _).mono ?_
  rintro e w2 ⟨rfl, hb2⟩
  have hs1 := HR1.out.blk
  have hR2 := HR1.out.frame (hb2.block _ (lt_of_block hs1))
  have hB2 := below_th HB1.out hb2
  have hdv := HDV.out w2 hB2 hR2
  have hq1 := (hc.below hB2).cellPc
  have hq2 : db < w2.heap.size := (hc.below hB2).lt
  unfold insCells at hdv
  simp only at hdv
  clear hb2 hs1 HDV HD HF HR HR1 HB HB1
  generalize hW3 : w2.alloc (.cells #[.int .u8 43, .int .u8 d, .int .u8 a, .int .u8 b, .int .u32 imm] 144) = w3 at *
  have H3 := Lib.hid hdv
  obtain ⟨y0, y1, y2, y3, y4⟩ := hdv.cells
  simp only at y0 y1 y2 y3 y4
  have z0 := hdv.cpu.cellPc
  have z1 := hdv.cpu.cellReg a ha
  have z2 := hdv.cpu.cellReg b hb
  have z3 := hdv.cpu.thaw 16
  clear hdv hR2 hB2 hq1 hq2
  go_wp2_with fail
  refine (branches H3.out.cpu 43 d a b imm ha hb).mono ?_
  rintro e w6 ⟨rfl, hb6⟩
  have hbr : brV r ⟨43, d, a, b, imm⟩ = false := hcd
  rw [hbr]
  have hdv := H3.out.below hb6
  obtain ⟨y0, y1, y2, y3, y4⟩ := hdv.cells
  simp only at y0 y1 y2 y3 y4
  have z0 := hdv.cpu.cellPc
  have z3 := hdv.cpu.thaw 16
  obtain ⟨c0, c1, c2, f0, f1, f2⟩ := hdv.rs.cells
  have hne : w.heap.size ≠ db := by have := hdv.nb.2.2.1; omega
  have H6 := Lib.hid hdv
  clear hdv hb6 hbr
  go_wp2
  refine bodyPost_ret (v := stopV 0 0 0) (by simp [results, Tryz.results152, go_sem, stopV, *]) rfl ?_
  exact HPQ.out _ _ _ 0 0 0 _ _ (H6.out.setC (H6.out.cpu.setPc (next pc) (next_bd pc).1 (next_bd pc).2) (Mod.setCell (F := fun j => j = db) (Mod.refl _ _) _ (.inl rfl) _)) rfl
set_option maxRecDepth 100000 in
set_option maxHeartbeats 2000000 in
theorem stepD_bne_true (hc : Cpu 124 w db r pc) (hr : Rsp w rb lv R) (hn : ¬ Rsp.foot rb lv R db) (hf : Sp.fitsB (rpgs R) pc 8 4 = true) (hd : Ins.decB (strOfNums (Sp.getL (rpgs R) pc 8)) = true)
    (d a b : Nat) (imm : Int) (hx : Ins.decI (strOfNums (Sp.getL (rpgs R) pc 8)) = ⟨44, d, a, b, imm⟩) (i0 : 0 ≤ imm) (i1 : imm ≤ 4294967295) (hd16 : d < 16) (ha : a < 16) (hb : b < 16) (hcd : (rg r a != rg r b) = true) :
    Calls Tryz.prog 152 #[.pointer (some ⟨db, 0, none⟩), .pointer (some ⟨rb, 0, none⟩)] w (SdStPost w db rb lv R (goes (rpgs R) r imm)) := by
  have hva := rg_bd hc.regs a
  have hvb := rg_bd hc.regs b
  have ha1 : (a : Int) < 16 := by omega
  have hb1 : (b : Int) < 16 := by omega
  have hE := fetch_yes hf
  have hbW : Below w.heap.size w (w.alloc (.cells #[.int .u8 0, .int .u32 0, .int .i64 0] 67)) := (Below.refl _ _).alloc (Nat.le_refl _) _
  have hcp := (hc.below hbW).cellPc
  have hF := Rs.get_any (hr.same hbW) pc 8 4 hc.p0 hc.p1 (by omega) (by omega)
  rw [hE.1, hE.2] at hF
  have HF := Lib.hid hF
  have HB := Lib.hid hbW
  have HR := Lib.hid (⟨heap_alloc_new w _⟩ : RsBox (w.alloc (.cells #[.int .u8 0, .int .u32 0, .int .i64 0] 67)) w.heap.size)
  have HD : Hid (∀ W, Calls Tryz.prog 216 #[.string (strOfNums (Sp.getL (rpgs R) pc 8))] W fun e w' => e = .returned (.tuple #[Ins.val ⟨44, d, a, b, imm⟩, .int .i64 0]) ∧ Below W.heap.size W w') := Lib.hid fun W => by
    have h := Ins.decodeR (strOfNums (Sp.getL (rpgs R) pc 8)) (by rw [size_strOfNums, Sp.getL_length]; omega) W
    unfold Ins.decX Ins.decE at h
    rw [hd, hx] at h
    exact h
  have HDV : Hid (∀ w2, Below w.heap.size w w2 → RsBox w2 w.heap.size → DV w (w2.alloc (.cells (insCells ⟨44, d, a, b, imm⟩) 144)) w2.heap.size ⟨44, d, a, b, imm⟩ db rb lv R R r pc) := Lib.hid fun w2 hb2 hr2 => by
    have hb3 : Below w2.heap.size w2 (w2.alloc (.cells (insCells ⟨44, d, a, b, imm⟩) 144)) := (Below.refl _ _).alloc (Nat.le_refl _) _
    have hl := lt_of_block hr2.blk
    have hdl := hc.lt
    exact ⟨(hc.below hb2).below hb3, (hr.same hb2).same hb3, hn, heap_alloc_new w2 _, hr2.frame (hb3.block _ hl), (Mod.of_below hb2 _).same (Mod.of_below hb3 _), fun _ g => .inl g, by omega, fun k hk => by have := hr.lt hk; omega, by omega, by omega⟩
  have HPQ : Hid (∀ V bx R' k n y r' pc', DV w V bx ⟨44, d, a, b, imm⟩ db rb lv R R' r' pc' → (⟨k, n, y, r', pc', rpgs R'⟩ : Out) = (goes (rpgs R) r imm) → SdStPost w db rb lv R (goes (rpgs R) r imm) (.returned (stopV k n y)) (((V.setCell ⟨w.heap.size, 0, none⟩ (.int .u8 k)).setCell ⟨w.heap.size, 1, none⟩ (.int .u32 n)).setCell ⟨w.heap.size, 2, none⟩ (.int .i64 y))) := Lib.hid fun V bx R' k n y r' pc' h e => by rw [← e]; exact h.fin k n y
  generalize SdStPost w db rb lv R (goes (rpgs R) r imm) = PQ at *
  generalize strOfNums (Sp.getL (rpgs R) pc 8) = S at *
  have hnx : IntKind.u32.wrap (pc + 8) = next pc := by rw [IntKind.wrap_u32']; rfl
  clear hn hbW hE hf hF hd hx
  unfold Ins.val at HD
  simp only at HD
  go_enter Tryz.func152, Tryz.ntmps152
  go_wp2_with fail
  refine HF.out.mono ?_
  rintro e w1 ⟨rfl, hb1⟩
  have HR1 := Lib.hid (HR.out.frame (hb1.block _ (by simp)))
  have HB1 := Lib.hid (below_th HB.out hb1)
  clear hb1
  go_wp2_with fail
  refine (HD.out _).mono ?_
  rintro e w2 ⟨rfl, hb2⟩
  have hs1 := HR1.out.blk
  have hR2 := HR1.out.frame (hb2.block _ (lt_of_block hs1))
  have hB2 := below_th HB1.out hb2
  have hdv := HDV.out w2 hB2 hR2
  have hq1 := (hc.below hB2).cellPc
  have hq2 : db < w2.heap.size := (hc.below hB2).lt
  unfold insCells at hdv
  simp only at hdv
  clear hb2 hs1 HDV HD HF HR HR1 HB HB1
  generalize hW3 : w2.alloc (.cells #[.int .u8 44, .int .u8 d, .int .u8 a, .int .u8 b, .int .u32 imm] 144) = w3 at *
  have H3 := Lib.hid hdv
  obtain ⟨y0, y1, y2, y3, y4⟩ := hdv.cells
  simp only at y0 y1 y2 y3 y4
  have z0 := hdv.cpu.cellPc
  have z1 := hdv.cpu.cellReg a ha
  have z2 := hdv.cpu.cellReg b hb
  have z3 := hdv.cpu.thaw 16
  clear hdv hR2 hB2 hq1 hq2
  go_wp2_with fail
  refine (branches H3.out.cpu 44 d a b imm ha hb).mono ?_
  rintro e w6 ⟨rfl, hb6⟩
  have hbr : brV r ⟨44, d, a, b, imm⟩ = true := hcd
  rw [hbr]
  have hdv := H3.out.below hb6
  obtain ⟨y0, y1, y2, y3, y4⟩ := hdv.cells
  simp only at y0 y1 y2 y3 y4
  have z0 := hdv.cpu.cellPc
  have z3 := hdv.cpu.thaw 16
  obtain ⟨c0, c1, c2, f0, f1, f2⟩ := hdv.rs.cells
  have hne : w.heap.size ≠ db := by have := hdv.nb.2.2.1; omega
  have H6 := Lib.hid hdv
  clear hdv hb6 hbr
  go_wp2
  refine bodyPost_ret (v := stopV 0 0 0) (by simp [results, Tryz.results152, go_sem, stopV, *]) rfl ?_
  exact HPQ.out _ _ _ 0 0 0 _ _ (H6.out.setC (H6.out.cpu.setPc imm i0 i1) (Mod.setCell (F := fun j => j = db) (Mod.refl _ _) _ (.inl rfl) _)) rfl
set_option maxRecDepth 100000 in
set_option maxHeartbeats 2000000 in
theorem stepD_bne_false (hc : Cpu 124 w db r pc) (hr : Rsp w rb lv R) (hn : ¬ Rsp.foot rb lv R db) (hf : Sp.fitsB (rpgs R) pc 8 4 = true) (hd : Ins.decB (strOfNums (Sp.getL (rpgs R) pc 8)) = true)
    (d a b : Nat) (imm : Int) (hx : Ins.decI (strOfNums (Sp.getL (rpgs R) pc 8)) = ⟨44, d, a, b, imm⟩) (i0 : 0 ≤ imm) (i1 : imm ≤ 4294967295) (hd16 : d < 16) (ha : a < 16) (hb : b < 16) (hcd : (rg r a != rg r b) = false) :
    Calls Tryz.prog 152 #[.pointer (some ⟨db, 0, none⟩), .pointer (some ⟨rb, 0, none⟩)] w (SdStPost w db rb lv R (goes (rpgs R) r (next pc))) := by
  have hva := rg_bd hc.regs a
  have hvb := rg_bd hc.regs b
  have ha1 : (a : Int) < 16 := by omega
  have hb1 : (b : Int) < 16 := by omega
  have hE := fetch_yes hf
  have hbW : Below w.heap.size w (w.alloc (.cells #[.int .u8 0, .int .u32 0, .int .i64 0] 67)) := (Below.refl _ _).alloc (Nat.le_refl _) _
  have hcp := (hc.below hbW).cellPc
  have hF := Rs.get_any (hr.same hbW) pc 8 4 hc.p0 hc.p1 (by omega) (by omega)
  rw [hE.1, hE.2] at hF
  have HF := Lib.hid hF
  have HB := Lib.hid hbW
  have HR := Lib.hid (⟨heap_alloc_new w _⟩ : RsBox (w.alloc (.cells #[.int .u8 0, .int .u32 0, .int .i64 0] 67)) w.heap.size)
  have HD : Hid (∀ W, Calls Tryz.prog 216 #[.string (strOfNums (Sp.getL (rpgs R) pc 8))] W fun e w' => e = .returned (.tuple #[Ins.val ⟨44, d, a, b, imm⟩, .int .i64 0]) ∧ Below W.heap.size W w') := Lib.hid fun W => by
    have h := Ins.decodeR (strOfNums (Sp.getL (rpgs R) pc 8)) (by rw [size_strOfNums, Sp.getL_length]; omega) W
    unfold Ins.decX Ins.decE at h
    rw [hd, hx] at h
    exact h
  have HDV : Hid (∀ w2, Below w.heap.size w w2 → RsBox w2 w.heap.size → DV w (w2.alloc (.cells (insCells ⟨44, d, a, b, imm⟩) 144)) w2.heap.size ⟨44, d, a, b, imm⟩ db rb lv R R r pc) := Lib.hid fun w2 hb2 hr2 => by
    have hb3 : Below w2.heap.size w2 (w2.alloc (.cells (insCells ⟨44, d, a, b, imm⟩) 144)) := (Below.refl _ _).alloc (Nat.le_refl _) _
    have hl := lt_of_block hr2.blk
    have hdl := hc.lt
    exact ⟨(hc.below hb2).below hb3, (hr.same hb2).same hb3, hn, heap_alloc_new w2 _, hr2.frame (hb3.block _ hl), (Mod.of_below hb2 _).same (Mod.of_below hb3 _), fun _ g => .inl g, by omega, fun k hk => by have := hr.lt hk; omega, by omega, by omega⟩
  have HPQ : Hid (∀ V bx R' k n y r' pc', DV w V bx ⟨44, d, a, b, imm⟩ db rb lv R R' r' pc' → (⟨k, n, y, r', pc', rpgs R'⟩ : Out) = (goes (rpgs R) r (next pc)) → SdStPost w db rb lv R (goes (rpgs R) r (next pc)) (.returned (stopV k n y)) (((V.setCell ⟨w.heap.size, 0, none⟩ (.int .u8 k)).setCell ⟨w.heap.size, 1, none⟩ (.int .u32 n)).setCell ⟨w.heap.size, 2, none⟩ (.int .i64 y))) := Lib.hid fun V bx R' k n y r' pc' h e => by rw [← e]; exact h.fin k n y
  generalize SdStPost w db rb lv R (goes (rpgs R) r (next pc)) = PQ at *
  generalize strOfNums (Sp.getL (rpgs R) pc 8) = S at *
  have hnx : IntKind.u32.wrap (pc + 8) = next pc := by rw [IntKind.wrap_u32']; rfl
  clear hn hbW hE hf hF hd hx
  unfold Ins.val at HD
  simp only at HD
  go_enter Tryz.func152, Tryz.ntmps152
  go_wp2_with fail
  refine HF.out.mono ?_
  rintro e w1 ⟨rfl, hb1⟩
  have HR1 := Lib.hid (HR.out.frame (hb1.block _ (by simp)))
  have HB1 := Lib.hid (below_th HB.out hb1)
  clear hb1
  go_wp2_with fail
  refine (HD.out _).mono ?_
  rintro e w2 ⟨rfl, hb2⟩
  have hs1 := HR1.out.blk
  have hR2 := HR1.out.frame (hb2.block _ (lt_of_block hs1))
  have hB2 := below_th HB1.out hb2
  have hdv := HDV.out w2 hB2 hR2
  have hq1 := (hc.below hB2).cellPc
  have hq2 : db < w2.heap.size := (hc.below hB2).lt
  unfold insCells at hdv
  simp only at hdv
  clear hb2 hs1 HDV HD HF HR HR1 HB HB1
  generalize hW3 : w2.alloc (.cells #[.int .u8 44, .int .u8 d, .int .u8 a, .int .u8 b, .int .u32 imm] 144) = w3 at *
  have H3 := Lib.hid hdv
  obtain ⟨y0, y1, y2, y3, y4⟩ := hdv.cells
  simp only at y0 y1 y2 y3 y4
  have z0 := hdv.cpu.cellPc
  have z1 := hdv.cpu.cellReg a ha
  have z2 := hdv.cpu.cellReg b hb
  have z3 := hdv.cpu.thaw 16
  clear hdv hR2 hB2 hq1 hq2
  go_wp2_with fail
  refine (branches H3.out.cpu 44 d a b imm ha hb).mono ?_
  rintro e w6 ⟨rfl, hb6⟩
  have hbr : brV r ⟨44, d, a, b, imm⟩ = false := hcd
  rw [hbr]
  have hdv := H3.out.below hb6
  obtain ⟨y0, y1, y2, y3, y4⟩ := hdv.cells
  simp only at y0 y1 y2 y3 y4
  have z0 := hdv.cpu.cellPc
  have z3 := hdv.cpu.thaw 16
  obtain ⟨c0, c1, c2, f0, f1, f2⟩ := hdv.rs.cells
  have hne : w.heap.size ≠ db := by have := hdv.nb.2.2.1; omega
  have H6 := Lib.hid hdv
  clear hdv hb6 hbr
  go_wp2
  refine bodyPost_ret (v := stopV 0 0 0) (by simp [results, Tryz.results152, go_sem, stopV, *]) rfl ?_
  exact HPQ.out _ _ _ 0 0 0 _ _ (H6.out.setC (H6.out.cpu.setPc (next pc) (next_bd pc).1 (next_bd pc).2) (Mod.setCell (F := fun j => j = db) (Mod.refl _ _) _ (.inl rfl) _)) rfl
set_option maxRecDepth 100000 in
set_option maxHeartbeats 2000000 in
theorem stepD_bltu_true (hc : Cpu 124 w db r pc) (hr : Rsp w rb lv R) (hn : ¬ Rsp.foot rb lv R db) (hf : Sp.fitsB (rpgs R) pc 8 4 = true) (hd : Ins.decB (strOfNums (Sp.getL (rpgs R) pc 8)) = true)
    (d a b : Nat) (imm : Int) (hx : Ins.decI (strOfNums (Sp.getL (rpgs R) pc 8)) = ⟨45, d, a, b, imm⟩) (i0 : 0 ≤ imm) (i1 : imm ≤ 4294967295) (hd16 : d < 16) (ha : a < 16) (hb : b < 16) (hcd : (decide (rg r a < rg r b)) = true) :
    Calls Tryz.prog 152 #[.pointer (some ⟨db, 0, none⟩), .pointer (some ⟨rb, 0, none⟩)] w (SdStPost w db rb lv R (goes (rpgs R) r imm)) := by
  have hva := rg_bd hc.regs a
  have hvb := rg_bd hc.regs b
  have ha1 : (a : Int) < 16 := by omega
  have hb1 : (b : Int) < 16 := by omega
  have hE := fetch_yes hf
  have hbW : Below w.heap.size w (w.alloc (.cells #[.int .u8 0, .int .u32 0, .int .i64 0] 67)) := (Below.refl _ _).alloc (Nat.le_refl _) _
  have hcp := (hc.below hbW).cellPc
  have hF := Rs.get_any (hr.same hbW) pc 8 4 hc.p0 hc.p1 (by omega) (by omega)
  rw [hE.1, hE.2] at hF
  have HF := Lib.hid hF
  have HB := Lib.hid hbW
  have HR := Lib.hid (⟨heap_alloc_new w _⟩ : RsBox (w.alloc (.cells #[.int .u8 0, .int .u32 0, .int .i64 0] 67)) w.heap.size)
  have HD : Hid (∀ W, Calls Tryz.prog 216 #[.string (strOfNums (Sp.getL (rpgs R) pc 8))] W fun e w' => e = .returned (.tuple #[Ins.val ⟨45, d, a, b, imm⟩, .int .i64 0]) ∧ Below W.heap.size W w') := Lib.hid fun W => by
    have h := Ins.decodeR (strOfNums (Sp.getL (rpgs R) pc 8)) (by rw [size_strOfNums, Sp.getL_length]; omega) W
    unfold Ins.decX Ins.decE at h
    rw [hd, hx] at h
    exact h
  have HDV : Hid (∀ w2, Below w.heap.size w w2 → RsBox w2 w.heap.size → DV w (w2.alloc (.cells (insCells ⟨45, d, a, b, imm⟩) 144)) w2.heap.size ⟨45, d, a, b, imm⟩ db rb lv R R r pc) := Lib.hid fun w2 hb2 hr2 => by
    have hb3 : Below w2.heap.size w2 (w2.alloc (.cells (insCells ⟨45, d, a, b, imm⟩) 144)) := (Below.refl _ _).alloc (Nat.le_refl _) _
    have hl := lt_of_block hr2.blk
    have hdl := hc.lt
    exact ⟨(hc.below hb2).below hb3, (hr.same hb2).same hb3, hn, heap_alloc_new w2 _, hr2.frame (hb3.block _ hl), (Mod.of_below hb2 _).same (Mod.of_below hb3 _), fun _ g => .inl g, by omega, fun k hk => by have := hr.lt hk; omega, by omega, by omega⟩
  have HPQ : Hid (∀ V bx R' k n y r' pc', DV w V bx ⟨45, d, a, b, imm⟩ db rb lv R R' r' pc' → (⟨k, n, y, r', pc', rpgs R'⟩ : Out) = (goes (rpgs R) r imm) → SdStPost w db rb lv R (goes (rpgs R) r imm) (.returned (stopV k n y)) (((V.setCell ⟨w.heap.size, 0, none⟩ (.int .u8 k)).setCell ⟨w.heap.size, 1, none⟩ (.int .u32 n)).setCell ⟨w.heap.size, 2, none⟩ (.int .i64 y))) := Lib.hid fun V bx R' k n y r' pc' h e => by rw [← e]; exact h.fin k n y
  generalize SdStPost w db rb lv R (goes (rpgs R) r imm) = PQ at *
  generalize strOfNums (Sp.getL (rpgs R) pc 8) = S at *
  have hnx : IntKind.u32.wrap (pc + 8) = next pc := by rw [IntKind.wrap_u32']; rfl
  clear hn hbW hE hf hF hd hx
  unfold Ins.val at HD
  simp only at HD
  go_enter Tryz.func152, Tryz.ntmps152
  go_wp2_with fail
  refine HF.out.mono ?_
  rintro e w1 ⟨rfl, hb1⟩
  have HR1 := Lib.hid (HR.out.frame (hb1.block _ (by simp)))
  have HB1 := Lib.hid (below_th HB.out hb1)
  clear hb1
  go_wp2_with fail
  refine (HD.out _).mono ?_
  rintro e w2 ⟨rfl, hb2⟩
  have hs1 := HR1.out.blk
  have hR2 := HR1.out.frame (hb2.block _ (lt_of_block hs1))
  have hB2 := below_th HB1.out hb2
  have hdv := HDV.out w2 hB2 hR2
  have hq1 := (hc.below hB2).cellPc
  have hq2 : db < w2.heap.size := (hc.below hB2).lt
  unfold insCells at hdv
  simp only at hdv
  clear hb2 hs1 HDV HD HF HR HR1 HB HB1
  generalize hW3 : w2.alloc (.cells #[.int .u8 45, .int .u8 d, .int .u8 a, .int .u8 b, .int .u32 imm] 144) = w3 at *
  have H3 := Lib.hid hdv
  obtain ⟨y0, y1, y2, y3, y4⟩ := hdv.cells
  simp only at y0 y1 y2 y3 y4
  have z0 := hdv.cpu.cellPc
  have z1 := hdv.cpu.cellReg a ha
  have z2 := hdv.cpu.cellReg b hb
  have z3 := hdv.cpu.thaw 16
  clear hdv hR2 hB2 hq1 hq2
  go_wp2_with fail
  refine (branches H3.out.cpu 45 d a b imm ha hb).mono ?_
  rintro e w6 ⟨rfl, hb6⟩
  have hbr : brV r ⟨45, d, a, b, imm⟩ = true := hcd
  rw [hbr]
  have hdv := H3.out.below hb6
  obtain ⟨y0, y1, y2, y3, y4⟩ := hdv.cells
  simp only at y0 y1 y2 y3 y4
  have z0 := hdv.cpu.cellPc
  have z3 := hdv.cpu.thaw 16
  obtain ⟨c0, c1, c2, f0, f1, f2⟩ := hdv.rs.cells
  have hne : w.heap.size ≠ db := by have := hdv.nb.2.2.1; omega
  have H6 := Lib.hid hdv
  clear hdv hb6 hbr
  go_wp2
  refine bodyPost_ret (v := stopV 0 0 0) (by simp [results, Tryz.results152, go_sem, stopV, *]) rfl ?_
  exact HPQ.out _ _ _ 0 0 0 _ _ (H6.out.setC (H6.out.cpu.setPc imm i0 i1) (Mod.setCell (F := fun j => j = db) (Mod.refl _ _) _ (.inl rfl) _)) rfl
set_option maxRecDepth 100000 in
set_option maxHeartbeats 2000000 in
theorem stepD_bltu_false (hc : Cpu 124 w db r pc) (hr : Rsp w rb lv R) (hn : ¬ Rsp.foot rb lv R db) (hf : Sp.fitsB (rpgs R) pc 8 4 = true) (hd : Ins.decB (strOfNums (Sp.getL (rpgs R) pc 8)) = true)
    (d a b : Nat) (imm : Int) (hx : Ins.decI (strOfNums (Sp.getL (rpgs R) pc 8)) = ⟨45, d, a, b, imm⟩) (i0 : 0 ≤ imm) (i1 : imm ≤ 4294967295) (hd16 : d < 16) (ha : a < 16) (hb : b < 16) (hcd : (decide (rg r a < rg r b)) = false) :
    Calls Tryz.prog 152 #[.pointer (some ⟨db, 0, none⟩), .pointer (some ⟨rb, 0, none⟩)] w (SdStPost w db rb lv R (goes (rpgs R) r (next pc))) := by
  have hva := rg_bd hc.regs a
  have hvb := rg_bd hc.regs b
  have ha1 : (a : Int) < 16 := by omega
  have hb1 : (b : Int) < 16 := by omega
  have hE := fetch_yes hf
  have hbW : Below w.heap.size w (w.alloc (.cells #[.int .u8 0, .int .u32 0, .int .i64 0] 67)) := (Below.refl _ _).alloc (Nat.le_refl _) _
  have hcp := (hc.below hbW).cellPc
  have hF := Rs.get_any (hr.same hbW) pc 8 4 hc.p0 hc.p1 (by omega) (by omega)
  rw [hE.1, hE.2] at hF
  have HF := Lib.hid hF
  have HB := Lib.hid hbW
  have HR := Lib.hid (⟨heap_alloc_new w _⟩ : RsBox (w.alloc (.cells #[.int .u8 0, .int .u32 0, .int .i64 0] 67)) w.heap.size)
  have HD : Hid (∀ W, Calls Tryz.prog 216 #[.string (strOfNums (Sp.getL (rpgs R) pc 8))] W fun e w' => e = .returned (.tuple #[Ins.val ⟨45, d, a, b, imm⟩, .int .i64 0]) ∧ Below W.heap.size W w') := Lib.hid fun W => by
    have h := Ins.decodeR (strOfNums (Sp.getL (rpgs R) pc 8)) (by rw [size_strOfNums, Sp.getL_length]; omega) W
    unfold Ins.decX Ins.decE at h
    rw [hd, hx] at h
    exact h
  have HDV : Hid (∀ w2, Below w.heap.size w w2 → RsBox w2 w.heap.size → DV w (w2.alloc (.cells (insCells ⟨45, d, a, b, imm⟩) 144)) w2.heap.size ⟨45, d, a, b, imm⟩ db rb lv R R r pc) := Lib.hid fun w2 hb2 hr2 => by
    have hb3 : Below w2.heap.size w2 (w2.alloc (.cells (insCells ⟨45, d, a, b, imm⟩) 144)) := (Below.refl _ _).alloc (Nat.le_refl _) _
    have hl := lt_of_block hr2.blk
    have hdl := hc.lt
    exact ⟨(hc.below hb2).below hb3, (hr.same hb2).same hb3, hn, heap_alloc_new w2 _, hr2.frame (hb3.block _ hl), (Mod.of_below hb2 _).same (Mod.of_below hb3 _), fun _ g => .inl g, by omega, fun k hk => by have := hr.lt hk; omega, by omega, by omega⟩
  have HPQ : Hid (∀ V bx R' k n y r' pc', DV w V bx ⟨45, d, a, b, imm⟩ db rb lv R R' r' pc' → (⟨k, n, y, r', pc', rpgs R'⟩ : Out) = (goes (rpgs R) r (next pc)) → SdStPost w db rb lv R (goes (rpgs R) r (next pc)) (.returned (stopV k n y)) (((V.setCell ⟨w.heap.size, 0, none⟩ (.int .u8 k)).setCell ⟨w.heap.size, 1, none⟩ (.int .u32 n)).setCell ⟨w.heap.size, 2, none⟩ (.int .i64 y))) := Lib.hid fun V bx R' k n y r' pc' h e => by rw [← e]; exact h.fin k n y
  generalize SdStPost w db rb lv R (goes (rpgs R) r (next pc)) = PQ at *
  generalize strOfNums (Sp.getL (rpgs R) pc 8) = S at *
  have hnx : IntKind.u32.wrap (pc + 8) = next pc := by rw [IntKind.wrap_u32']; rfl
  clear hn hbW hE hf hF hd hx
  unfold Ins.val at HD
  simp only at HD
  go_enter Tryz.func152, Tryz.ntmps152
  go_wp2_with fail
  refine HF.out.mono ?_
  rintro e w1 ⟨rfl, hb1⟩
  have HR1 := Lib.hid (HR.out.frame (hb1.block _ (by simp)))
  have HB1 := Lib.hid (below_th HB.out hb1)
  clear hb1
  go_wp2_with fail
  refine (HD.out _).mono ?_
  rintro e w2 ⟨rfl, hb2⟩
  have hs1 := HR1.out.blk
  have hR2 := HR1.out.frame (hb2.block _ (lt_of_block hs1))
  have hB2 := below_th HB1.out hb2
  have hdv := HDV.out w2 hB2 hR2
  have hq1 := (hc.below hB2).cellPc
  have hq2 : db < w2.heap.size := (hc.below hB2).lt
  unfold insCells at hdv
  simp only at hdv
  clear hb2 hs1 HDV HD HF HR HR1 HB HB1
  generalize hW3 : w2.alloc (.cells #[.int .u8 45, .int .u8 d, .int .u8 a, .int .u8 b, .int .u32 imm] 144) = w3 at *
  have H3 := Lib.hid hdv
  obtain ⟨y0, y1, y2, y3, y4⟩ := hdv.cells
  simp only at y0 y1 y2 y3 y4
  have z0 := hdv.cpu.cellPc
  have z1 := hdv.cpu.cellReg a ha
  have z2 := hdv.cpu.cellReg b hb
  have z3 := hdv.cpu.thaw 16
  clear hdv hR2 hB2 hq1 hq2
  go_wp2_with fail
  refine (branches H3.out.cpu 45 d a b imm ha hb).mono ?_
  rintro e w6 ⟨rfl, hb6⟩
  have hbr : brV r ⟨45, d, a, b, imm⟩ = false := hcd
  rw [hbr]
  have hdv := H3.out.below hb6
  obtain ⟨y0, y1, y2, y3, y4⟩ := hdv.cells
  simp only at y0 y1 y2 y3 y4
  have z0 := hdv.cpu.cellPc
  have z3 := hdv.cpu.thaw 16
  obtain ⟨c0, c1, c2, f0, f1, f2⟩ := hdv.rs.cells
  have hne : w.heap.size ≠ db := by have := hdv.nb.2.2.1; omega
  have H6 := Lib.hid hdv
  clear hdv hb6 hbr
  go_wp2
  refine bodyPost_ret (v := stopV 0 0 0) (by simp [results, Tryz.results152, go_sem, stopV, *]) rfl ?_
  exact HPQ.out _ _ _ 0 0 0 _ _ (H6.out.setC (H6.out.cpu.setPc (next pc) (next_bd pc).1 (next_bd pc).2) (Mod.setCell (F := fun j => j = db) (Mod.refl _ _) _ (.inl rfl) _)) rfl
set_option maxRecDepth 100000 in
set_option maxHeartbeats 2000000 in
theorem stepD_bgeu_true (hc : Cpu 124 w db r pc) (hr : Rsp w rb lv R) (hn : ¬ Rsp.foot rb lv R db) (hf : Sp.fitsB (rpgs R) pc 8 4 = true) (hd : Ins.decB (strOfNums (Sp.getL (rpgs R) pc 8)) = true)
    (d a b : Nat) (imm : Int) (hx : Ins.decI (strOfNums (Sp.getL (rpgs R) pc 8)) = ⟨46, d, a, b, imm⟩) (i0 : 0 ≤ imm) (i1 : imm ≤ 4294967295) (hd16 : d < 16) (ha : a < 16) (hb : b < 16) (hcd : (decide (rg r b ≤ rg r a)) = true) :
    Calls Tryz.prog 152 #[.pointer (some ⟨db, 0, none⟩), .pointer (some ⟨rb, 0, none⟩)] w (SdStPost w db rb lv R (goes (rpgs R) r imm)) := by
  have hva := rg_bd hc.regs a
  have hvb := rg_bd hc.regs b
  have ha1 : (a : Int) < 16 := by omega
  have hb1 : (b : Int) < 16 := by omega
  have hE := fetch_yes hf
  have hbW : Below w.heap.size w (w.alloc (.cells #[.int .u8 0, .int .u32 0, .int .i64 0] 67)) := (Below.refl _ _).alloc (Nat.le_refl _) _
  have hcp := (hc.below hbW).cellPc
  have hF := Rs.get_any (hr.same hbW) pc 8 4 hc.p0 hc.p1 (by omega) (by omega)
  rw [hE.1, hE.2] at hF
  have HF := Lib.hid hF
  have HB := Lib.hid hbW
  have HR := Lib.hid (⟨heap_alloc_new w _⟩ : RsBox (w.alloc (.cells #[.int .u8 0, .int .u32 0, .int .i64 0] 67)) w.heap.size)
  have HD : Hid (∀ W, Calls Tryz.prog 216 #[.string (strOfNums (Sp.getL (rpgs R) pc 8))] W fun e w' => e = .returned (.tuple #[Ins.val ⟨46, d, a, b, imm⟩, .int .i64 0]) ∧ Below W.heap.size W w') := Lib.hid fun W => by
    have h := Ins.decodeR (strOfNums (Sp.getL (rpgs R) pc 8)) (by rw [size_strOfNums, Sp.getL_length]; omega) W
    unfold Ins.decX Ins.decE at h
    rw [hd, hx] at h
    exact h
  have HDV : Hid (∀ w2, Below w.heap.size w w2 → RsBox w2 w.heap.size → DV w (w2.alloc (.cells (insCells ⟨46, d, a, b, imm⟩) 144)) w2.heap.size ⟨46, d, a, b, imm⟩ db rb lv R R r pc) := Lib.hid fun w2 hb2 hr2 => by
    have hb3 : Below w2.heap.size w2 (w2.alloc (.cells (insCells ⟨46, d, a, b, imm⟩) 144)) := (Below.refl _ _).alloc (Nat.le_refl _) _
    have hl := lt_of_block hr2.blk
    have hdl := hc.lt
    exact ⟨(hc.below hb2).below hb3, (hr.same hb2).same hb3, hn, heap_alloc_new w2 _, hr2.frame (hb3.block _ hl), (Mod.of_below hb2 _).same (Mod.of_below hb3 _), fun _ g => .inl g, by omega, fun k hk => by have := hr.lt hk; omega, by omega, by omega⟩
  have HPQ : Hid (∀ V bx R' k n y r' pc', DV w V bx ⟨46, d, a, b, imm⟩ db rb lv R R' r' pc' → (⟨k, n, y, r', pc', rpgs R'⟩ : Out) = (goes (rpgs R) r imm) → SdStPost w db rb lv R (goes (rpgs R) r imm) (.returned (stopV k n y)) (((V.setCell ⟨w.heap.size, 0, none⟩ (.int .u8 k)).setCell ⟨w.heap.size, 1, none⟩ (.int .u32 n)).setCell ⟨w.heap.size, 2, none⟩ (.int .i64 y))) := Lib.hid fun V bx R' k n y r' pc' h e => by rw [← e]; exact h.fin k n y
  generalize SdStPost w db rb lv R (goes (rpgs R) r imm) = PQ at *
  generalize strOfNums (Sp.getL (rpgs R) pc 8) = S at *
  have hnx : IntKind.u32.wrap (pc + 8) = next pc := by rw [IntKind.wrap_u32']; rfl
  clear hn hbW hE hf hF hd hx
  unfold Ins.val at HD
  simp only at HD
  go_enter Tryz.func152, Tryz.ntmps152
  go_wp2_with fail
  refine HF.out.mono ?_
  rintro e w1 ⟨rfl, hb1⟩
  have HR1 := Lib.hid (HR.out.frame (hb1.block _ (by simp)))
  have HB1 := Lib.hid (below_th HB.out hb1)
  clear hb1
  go_wp2_with fail
  refine (HD.out _).mono ?_
  rintro e w2 ⟨rfl, hb2⟩
  have hs1 := HR1.out.blk
  have hR2 := HR1.out.frame (hb2.block _ (lt_of_block hs1))
  have hB2 := below_th HB1.out hb2
  have hdv := HDV.out w2 hB2 hR2
  have hq1 := (hc.below hB2).cellPc
  have hq2 : db < w2.heap.size := (hc.below hB2).lt
  unfold insCells at hdv
  simp only at hdv
  clear hb2 hs1 HDV HD HF HR HR1 HB HB1
  generalize hW3 : w2.alloc (.cells #[.int .u8 46, .int .u8 d, .int .u8 a, .int .u8 b, .int .u32 imm] 144) = w3 at *
  have H3 := Lib.hid hdv
  obtain ⟨y0, y1, y2, y3, y4⟩ := hdv.cells
  simp only at y0 y1 y2 y3 y4
  have z0 := hdv.cpu.cellPc
  have z1 := hdv.cpu.cellReg a ha
  have z2 := hdv.cpu.cellReg b hb
  have z3 := hdv.cpu.thaw 16
  clear hdv hR2 hB2 hq1 hq2
  go_wp2_with fail
  refine (branches H3.out.cpu 46 d a b imm ha hb).mono ?_
  rintro e w6 ⟨rfl, hb6⟩
  have hbr : brV r ⟨46, d, a, b, imm⟩ = true := hcd
  rw [hbr]
  have hdv := H3.out.below hb6
  obtain ⟨y0, y1, y2, y3, y4⟩ := hdv.cells
  simp only at y0 y1 y2 y3 y4
  have z0 := hdv.cpu.cellPc
  have z3 := hdv.cpu.thaw 16
  obtain ⟨c0, c1, c2, f0, f1, f2⟩ := hdv.rs.cells
  have hne : w.heap.size ≠ db := by have := hdv.nb.2.2.1; omega
  have H6 := Lib.hid hdv
  clear hdv hb6 hbr
  go_wp2
  refine bodyPost_ret (v := stopV 0 0 0) (by simp [results, Tryz.results152, go_sem, stopV, *]) rfl ?_
  exact HPQ.out _ _ _ 0 0 0 _ _ (H6.out.setC (H6.out.cpu.setPc imm i0 i1) (Mod.setCell (F := fun j => j = db) (Mod.refl _ _) _ (.inl rfl) _)) rfl
set_option maxRecDepth 100000 in
set_option maxHeartbeats 2000000 in
theorem stepD_bgeu_false (hc : Cpu 124 w db r pc) (hr : Rsp w rb lv R) (hn : ¬ Rsp.foot rb lv R db) (hf : Sp.fitsB (rpgs R) pc 8 4 = true) (hd : Ins.decB (strOfNums (Sp.getL (rpgs R) pc 8)) = true)
    (d a b : Nat) (imm : Int) (hx : Ins.decI (strOfNums (Sp.getL (rpgs R) pc 8)) = ⟨46, d, a, b, imm⟩) (i0 : 0 ≤ imm) (i1 : imm ≤ 4294967295) (hd16 : d < 16) (ha : a < 16) (hb : b < 16) (hcd : (decide (rg r b ≤ rg r a)) = false) :
    Calls Tryz.prog 152 #[.pointer (some ⟨db, 0, none⟩), .pointer (some ⟨rb, 0, none⟩)] w (SdStPost w db rb lv R (goes (rpgs R) r (next pc))) := by
  have hva := rg_bd hc.regs a
  have hvb := rg_bd hc.regs b
  have ha1 : (a : Int) < 16 := by omega
  have hb1 : (b : Int) < 16 := by omega
  have hE := fetch_yes hf
  have hbW : Below w.heap.size w (w.alloc (.cells #[.int .u8 0, .int .u32 0, .int .i64 0] 67)) := (Below.refl _ _).alloc (Nat.le_refl _) _
  have hcp := (hc.below hbW).cellPc
  have hF := Rs.get_any (hr.same hbW) pc 8 4 hc.p0 hc.p1 (by omega) (by omega)
  rw [hE.1, hE.2] at hF
  have HF := Lib.hid hF
  have HB := Lib.hid hbW
  have HR := Lib.hid (⟨heap_alloc_new w _⟩ : RsBox (w.alloc (.cells #[.int .u8 0, .int .u32 0, .int .i64 0] 67)) w.heap.size)
  have HD : Hid (∀ W, Calls Tryz.prog 216 #[.string (strOfNums (Sp.getL (rpgs R) pc 8))] W fun e w' => e = .returned (.tuple #[Ins.val ⟨46, d, a, b, imm⟩, .int .i64 0]) ∧ Below W.heap.size W w') := Lib.hid fun W => by
    have h := Ins.decodeR (strOfNums (Sp.getL (rpgs R) pc 8)) (by rw [size_strOfNums, Sp.getL_length]; omega) W
    unfold Ins.decX Ins.decE at h
    rw [hd, hx] at h
    exact h
  have HDV : Hid (∀ w2, Below w.heap.size w w2 → RsBox w2 w.heap.size → DV w (w2.alloc (.cells (insCells ⟨46, d, a, b, imm⟩) 144)) w2.heap.size ⟨46, d, a, b, imm⟩ db rb lv R R r pc) := Lib.hid fun w2 hb2 hr2 => by
    have hb3 : Below w2.heap.size w2 (w2.alloc (.cells (insCells ⟨46, d, a, b, imm⟩) 144)) := (Below.refl _ _).alloc (Nat.le_refl _) _
    have hl := lt_of_block hr2.blk
    have hdl := hc.lt
    exact ⟨(hc.below hb2).below hb3, (hr.same hb2).same hb3, hn, heap_alloc_new w2 _, hr2.frame (hb3.block _ hl), (Mod.of_below hb2 _).same (Mod.of_below hb3 _), fun _ g => .inl g, by omega, fun k hk => by have := hr.lt hk; omega, by omega, by omega⟩
  have HPQ : Hid (∀ V bx R' k n y r' pc', DV w V bx ⟨46, d, a, b, imm⟩ db rb lv R R' r' pc' → (⟨k, n, y, r', pc', rpgs R'⟩ : Out) = (goes (rpgs R) r (next pc)) → SdStPost w db rb lv R (goes (rpgs R) r (next pc)) (.returned (stopV k n y)) (((V.setCell ⟨w.heap.size, 0, none⟩ (.int .u8 k)).setCell ⟨w.heap.size, 1, none⟩ (.int .u32 n)).setCell ⟨w.heap.size, 2, none⟩ (.int .i64 y))) := Lib.hid fun V bx R' k n y r' pc' h e => by rw [← e]; exact h.fin k n y
  generalize SdStPost w db rb lv R (goes (rpgs R) r (next pc)) = PQ at *
  generalize strOfNums (Sp.getL (rpgs R) pc 8) = S at *
  have hnx : IntKind.u32.wrap (pc + 8) = next pc := by rw [IntKind.wrap_u32']; rfl
  clear hn hbW hE hf hF hd hx
  unfold Ins.val at HD
  simp only at HD
  go_enter Tryz.func152, Tryz.ntmps152
  go_wp2_with fail
  refine HF.out.mono ?_
  rintro e w1 ⟨rfl, hb1⟩
  have HR1 := Lib.hid (HR.out.frame (hb1.block _ (by simp)))
  have HB1 := Lib.hid (below_th HB.out hb1)
  clear hb1
  go_wp2_with fail
  refine (HD.out _).mono ?_
  rintro e w2 ⟨rfl, hb2⟩
  have hs1 := HR1.out.blk
  have hR2 := HR1.out.frame (hb2.block _ (lt_of_block hs1))
  have hB2 := below_th HB1.out hb2
  have hdv := HDV.out w2 hB2 hR2
  have hq1 := (hc.below hB2).cellPc
  have hq2 : db < w2.heap.size := (hc.below hB2).lt
  unfold insCells at hdv
  simp only at hdv
  clear hb2 hs1 HDV HD HF HR HR1 HB HB1
  generalize hW3 : w2.alloc (.cells #[.int .u8 46, .int .u8 d, .int .u8 a, .int .u8 b, .int .u32 imm] 144) = w3 at *
  have H3 := Lib.hid hdv
  obtain ⟨y0, y1, y2, y3, y4⟩ := hdv.cells
  simp only at y0 y1 y2 y3 y4
  have z0 := hdv.cpu.cellPc
  have z1 := hdv.cpu.cellReg a ha
  have z2 := hdv.cpu.cellReg b hb
  have z3 := hdv.cpu.thaw 16
  clear hdv hR2 hB2 hq1 hq2
  go_wp2_with fail
  refine (branches H3.out.cpu 46 d a b imm ha hb).mono ?_
  rintro e w6 ⟨rfl, hb6⟩
  have hbr : brV r ⟨46, d, a, b, imm⟩ = false := hcd
  rw [hbr]
  have hdv := H3.out.below hb6
  obtain ⟨y0, y1, y2, y3, y4⟩ := hdv.cells
  simp only at y0 y1 y2 y3 y4
  have z0 := hdv.cpu.cellPc
  have z3 := hdv.cpu.thaw 16
  obtain ⟨c0, c1, c2, f0, f1, f2⟩ := hdv.rs.cells
  have hne : w.heap.size ≠ db := by have := hdv.nb.2.2.1; omega
  have H6 := Lib.hid hdv
  clear hdv hb6 hbr
  go_wp2
  refine bodyPost_ret (v := stopV 0 0 0) (by simp [results, Tryz.results152, go_sem, stopV, *]) rfl ?_
  exact HPQ.out _ _ _ 0 0 0 _ _ (H6.out.setC (H6.out.cpu.setPc (next pc) (next_bd pc).1 (next_bd pc).2) (Mod.setCell (F := fun j => j = db) (Mod.refl _ _) _ (.inl rfl) _)) rfl
set_option maxRecDepth 100000 in
set_option maxHeartbeats 2000000 in
theorem stepD_jr (hc : Cpu 124 w db r pc) (hr : Rsp w rb lv R) (hn : ¬ Rsp.foot rb lv R db) (hf : Sp.fitsB (rpgs R) pc 8 4 = true) (hd : Ins.decB (strOfNums (Sp.getL (rpgs R) pc 8)) = true)
    (d a b : Nat) (imm : Int) (hx : Ins.decI (strOfNums (Sp.getL (rpgs R) pc 8)) = ⟨42, d, a, b, imm⟩) (i0 : 0 ≤ imm) (i1 : imm ≤ 4294967295) (hd16 : d < 16) (ha : a < 16) (hb : b < 16) :
    Calls Tryz.prog 152 #[.pointer (some ⟨db, 0, none⟩), .pointer (some ⟨rb, 0, none⟩)] w (SdStPost w db rb lv R (goes (rpgs R) r (rg r a))) := by
  have hva := rg_bd hc.regs a
  have hvb := rg_bd hc.regs b
  have ha1 : (a : Int) < 16 := by omega
  have hb1 : (b : Int) < 16 := by omega
  have hE := fetch_yes hf
  have hbW : Below w.heap.size w (w.alloc (.cells #[.int .u8 0, .int .u32 0, .int .i64 0] 67)) := (Below.refl _ _).alloc (Nat.le_refl _) _
  have hcp := (hc.below hbW).cellPc
  have hF := Rs.get_any (hr.same hbW) pc 8 4 hc.p0 hc.p1 (by omega) (by omega)
  rw [hE.1, hE.2] at hF
  have HF := Lib.hid hF
  have HB := Lib.hid hbW
  have HR := Lib.hid (⟨heap_alloc_new w _⟩ : RsBox (w.alloc (.cells #[.int .u8 0, .int .u32 0, .int .i64 0] 67)) w.heap.size)
  have HD : Hid (∀ W, Calls Tryz.prog 216 #[.string (strOfNums (Sp.getL (rpgs R) pc 8))] W fun e w' => e = .returned (.tuple #[Ins.val ⟨42, d, a, b, imm⟩, .int .i64 0]) ∧ Below W.heap.size W w') := Lib.hid fun W => by
    have h := Ins.decodeR (strOfNums (Sp.getL (rpgs R) pc 8)) (by rw [size_strOfNums, Sp.getL_length]; omega) W
    unfold Ins.decX Ins.decE at h
    rw [hd, hx] at h
    exact h
  have HDV : Hid (∀ w2, Below w.heap.size w w2 → RsBox w2 w.heap.size → DV w (w2.alloc (.cells (insCells ⟨42, d, a, b, imm⟩) 144)) w2.heap.size ⟨42, d, a, b, imm⟩ db rb lv R R r pc) := Lib.hid fun w2 hb2 hr2 => by
    have hb3 : Below w2.heap.size w2 (w2.alloc (.cells (insCells ⟨42, d, a, b, imm⟩) 144)) := (Below.refl _ _).alloc (Nat.le_refl _) _
    have hl := lt_of_block hr2.blk
    have hdl := hc.lt
    exact ⟨(hc.below hb2).below hb3, (hr.same hb2).same hb3, hn, heap_alloc_new w2 _, hr2.frame (hb3.block _ hl), (Mod.of_below hb2 _).same (Mod.of_below hb3 _), fun _ g => .inl g, by omega, fun k hk => by have := hr.lt hk; omega, by omega, by omega⟩
  have HPQ : Hid (∀ V bx R' k n y r' pc', DV w V bx ⟨42, d, a, b, imm⟩ db rb lv R R' r' pc' → (⟨k, n, y, r', pc', rpgs R'⟩ : Out) = (goes (rpgs R) r (rg r a)) → SdStPost w db rb lv R (goes (rpgs R) r (rg r a)) (.returned (stopV k n y)) (((V.setCell ⟨w.heap.size, 0, none⟩ (.int .u8 k)).setCell ⟨w.heap.size, 1, none⟩ (.int .u32 n)).setCell ⟨w.heap.size, 2, none⟩ (.int .i64 y))) := Lib.hid fun V bx R' k n y r' pc' h e => by rw [← e]; exact h.fin k n y
  generalize SdStPost w db rb lv R (goes (rpgs R) r (rg r a)) = PQ at *
  generalize strOfNums (Sp.getL (rpgs R) pc 8) = S at *
  have hnx : IntKind.u32.wrap (pc + 8) = next pc := by rw [IntKind.wrap_u32']; rfl
  clear hn hbW hE hf hF hd hx
  unfold Ins.val at HD
  simp only at HD
  go_enter Tryz.func152, Tryz.ntmps152
  go_wp2_with fail
  refine HF.out.mono ?_
  rintro e w1 ⟨rfl, hb1⟩
  have HR1 := Lib.hid (HR.out.frame (hb1.block _ (by simp)))
  have HB1 := Lib.hid (below_th HB.out hb1)
  clear hb1
  go_wp2_with fail
  refine (HD.out _).mono ?_
  rintro e w2 ⟨rfl, hb2⟩
  have hs1 := HR1.out.blk
  have hR2 := HR1.out.frame (hb2.block _ (lt_of_block hs1))
  have hB2 := below_th HB1.out hb2
  have hdv := HDV.out w2 hB2 hR2
  have hq1 := (hc.below hB2).cellPc
  have hq2 : db < w2.heap.size := (hc.below hB2).lt
  unfold insCells at hdv
  simp only at hdv
  clear hb2 hs1 HDV HD HF HR HR1 HB HB1
  generalize hW3 : w2.alloc (.cells #[.int .u8 42, .int .u8 d, .int .u8 a, .int .u8 b, .int .u32 imm] 144) = w3 at *
  have H3 := Lib.hid hdv
  obtain ⟨y0, y1, y2, y3, y4⟩ := hdv.cells
  simp only at y0 y1 y2 y3 y4
  have z0 := hdv.cpu.cellPc
  have z1 := hdv.cpu.cellReg a ha
  have z2 := hdv.cpu.cellReg b hb
  have z3 := hdv.cpu.thaw 16
  clear hdv hR2 hB2 hq1 hq2
  obtain ⟨c0, c1, c2, f0, f1, f2⟩ := H3.out.rs.cells
  have hne : w.heap.size ≠ db := by have := H3.out.nb.2.2.1; omega
  have H6 := Lib.hid (H3.out.below (Below.refl _ _).drew)
  go_wp2_with fail
  go_region
  go_wp2
  refine bodyPost_ret (v := stopV 0 0 0) (by simp [results, Tryz.results152, go_sem, stopV, *]) rfl ?_
  exact HPQ.out _ _ _ 0 0 0 _ _ (H6.out.setC (H6.out.cpu.setPc (rg r a) hva.1 hva.2) (Mod.setCell (F := fun j => j = db) (Mod.refl _ _) _ (.inl rfl) _)) rfl
set_option maxRecDepth 100000 in
set_option maxHeartbeats 2000000 in
theorem stepD_sys (hc : Cpu 124 w db r pc) (hr : Rsp w rb lv R) (hn : ¬ Rsp.foot rb lv R db) (hf : Sp.fitsB (rpgs R) pc 8 4 = true) (hd : Ins.decB (strOfNums (Sp.getL (rpgs R) pc 8)) = true)
    (d a b : Nat) (imm : Int) (hx : Ins.decI (strOfNums (Sp.getL (rpgs R) pc 8)) = ⟨50, d, a, b, imm⟩) (i0 : 0 ≤ imm) (i1 : imm ≤ 4294967295) (hd16 : d < 16) (ha : a < 16) (hb : b < 16) :
    Calls Tryz.prog 152 #[.pointer (some ⟨db, 0, none⟩), .pointer (some ⟨rb, 0, none⟩)] w (SdStPost w db rb lv R ⟨1, imm, 0, r, next pc, rpgs R⟩) := by
  have hva := rg_bd hc.regs a
  have hvb := rg_bd hc.regs b
  have ha1 : (a : Int) < 16 := by omega
  have hb1 : (b : Int) < 16 := by omega
  have hE := fetch_yes hf
  have hbW : Below w.heap.size w (w.alloc (.cells #[.int .u8 0, .int .u32 0, .int .i64 0] 67)) := (Below.refl _ _).alloc (Nat.le_refl _) _
  have hcp := (hc.below hbW).cellPc
  have hF := Rs.get_any (hr.same hbW) pc 8 4 hc.p0 hc.p1 (by omega) (by omega)
  rw [hE.1, hE.2] at hF
  have HF := Lib.hid hF
  have HB := Lib.hid hbW
  have HR := Lib.hid (⟨heap_alloc_new w _⟩ : RsBox (w.alloc (.cells #[.int .u8 0, .int .u32 0, .int .i64 0] 67)) w.heap.size)
  have HD : Hid (∀ W, Calls Tryz.prog 216 #[.string (strOfNums (Sp.getL (rpgs R) pc 8))] W fun e w' => e = .returned (.tuple #[Ins.val ⟨50, d, a, b, imm⟩, .int .i64 0]) ∧ Below W.heap.size W w') := Lib.hid fun W => by
    have h := Ins.decodeR (strOfNums (Sp.getL (rpgs R) pc 8)) (by rw [size_strOfNums, Sp.getL_length]; omega) W
    unfold Ins.decX Ins.decE at h
    rw [hd, hx] at h
    exact h
  have HDV : Hid (∀ w2, Below w.heap.size w w2 → RsBox w2 w.heap.size → DV w (w2.alloc (.cells (insCells ⟨50, d, a, b, imm⟩) 144)) w2.heap.size ⟨50, d, a, b, imm⟩ db rb lv R R r pc) := Lib.hid fun w2 hb2 hr2 => by
    have hb3 : Below w2.heap.size w2 (w2.alloc (.cells (insCells ⟨50, d, a, b, imm⟩) 144)) := (Below.refl _ _).alloc (Nat.le_refl _) _
    have hl := lt_of_block hr2.blk
    have hdl := hc.lt
    exact ⟨(hc.below hb2).below hb3, (hr.same hb2).same hb3, hn, heap_alloc_new w2 _, hr2.frame (hb3.block _ hl), (Mod.of_below hb2 _).same (Mod.of_below hb3 _), fun _ g => .inl g, by omega, fun k hk => by have := hr.lt hk; omega, by omega, by omega⟩
  have HPQ : Hid (∀ V bx R' k n y r' pc', DV w V bx ⟨50, d, a, b, imm⟩ db rb lv R R' r' pc' → (⟨k, n, y, r', pc', rpgs R'⟩ : Out) = ⟨1, imm, 0, r, next pc, rpgs R⟩ → SdStPost w db rb lv R ⟨1, imm, 0, r, next pc, rpgs R⟩ (.returned (stopV k n y)) (((V.setCell ⟨w.heap.size, 0, none⟩ (.int .u8 k)).setCell ⟨w.heap.size, 1, none⟩ (.int .u32 n)).setCell ⟨w.heap.size, 2, none⟩ (.int .i64 y))) := Lib.hid fun V bx R' k n y r' pc' h e => by rw [← e]; exact h.fin k n y
  generalize SdStPost w db rb lv R ⟨1, imm, 0, r, next pc, rpgs R⟩ = PQ at *
  generalize strOfNums (Sp.getL (rpgs R) pc 8) = S at *
  have hnx : IntKind.u32.wrap (pc + 8) = next pc := by rw [IntKind.wrap_u32']; rfl
  clear hn hbW hE hf hF hd hx
  unfold Ins.val at HD
  simp only at HD
  go_enter Tryz.func152, Tryz.ntmps152
  go_wp2_with fail
  refine HF.out.mono ?_
  rintro e w1 ⟨rfl, hb1⟩
  have HR1 := Lib.hid (HR.out.frame (hb1.block _ (by simp)))
  have HB1 := Lib.hid (below_th HB.out hb1)
  clear hb1
  go_wp2_with fail
  refine (HD.out _).mono ?_
  rintro e w2 ⟨rfl, hb2⟩
  have hs1 := HR1.out.blk
  have hR2 := HR1.out.frame (hb2.block _ (lt_of_block hs1))
  have hB2 := below_th HB1.out hb2
  have hdv := HDV.out w2 hB2 hR2
  have hq1 := (hc.below hB2).cellPc
  have hq2 : db < w2.heap.size := (hc.below hB2).lt
  unfold insCells at hdv
  simp only at hdv
  clear hb2 hs1 HDV HD HF HR HR1 HB HB1
  generalize hW3 : w2.alloc (.cells #[.int .u8 50, .int .u8 d, .int .u8 a, .int .u8 b, .int .u32 imm] 144) = w3 at *
  have H3 := Lib.hid hdv
  obtain ⟨y0, y1, y2, y3, y4⟩ := hdv.cells
  simp only at y0 y1 y2 y3 y4
  have z0 := hdv.cpu.cellPc
  have z1 := hdv.cpu.cellReg a ha
  have z2 := hdv.cpu.cellReg b hb
  have z3 := hdv.cpu.thaw 16
  clear hdv hR2 hB2 hq1 hq2
  obtain ⟨c0, c1, c2, f0, f1, f2⟩ := H3.out.rs.cells
  have hne : w.heap.size ≠ db := by have := H3.out.nb.2.2.1; omega
  have hbn : w2.heap.size ≠ db := H3.out.nb.1
  have H6 := Lib.hid H3.out
  go_wp2
  refine bodyPost_ret (v := stopV 1 imm 0) (by simp [results, Tryz.results152, go_sem, stopV, *]) rfl ?_
  exact HPQ.out _ _ _ 1 imm 0 _ _ (H6.out.setC (H6.out.cpu.setPc (next pc) (next_bd pc).1 (next_bd pc).2) (Mod.setCell (F := fun j => j = db) (Mod.refl _ _) _ (.inl rfl) _)) rfl
end
end Cp
end Go.Proofs.YtkbhokmnbpnlbaaGreat
/- The walk of aediculeref06.Step at loads and stores; the step whole. -/
namespace Go.Proofs.YtkbhokmnbpnlbaaGreat
open Go.RowKit Word
set_option linter.unusedVariables false
set_option linter.unusedSimpArgs false
namespace Cp
theorem DV.setR {w V V' : World} {bx : Nat} {x : Ins} {db rb : Nat} {lv : Value} {R0 R R' : List Rp} {r : List Int} {pc : Int} (h : DV w V bx x db rb lv R0 R r pc) (hc : Cpu 124 V' db r pc) (hs : RStep V V' rb lv R lv R') : DV w V' bx x db rb lv R0 R' r pc := by
  have hz := h.mod.size
  have hb := lt_of_block h.box
  have hl := lt_of_block h.rs.blk
  refine ⟨hc, hs.sp, fun g => ?_, (hs.mod.block _ hb (fun g => (h.nb.2.1 _ g).1 rfl)).trans h.box, h.rs.frame (hs.mod.block _ hl (fun g => (h.nb.2.1 _ g).2 rfl)), h.mod.trans hs.mod (fun i _ g => ?_), fun k hk => ?_, h.nb.1, fun k hk => ?_, h.nb.2.2⟩
  · rcases hs.foot _ g with q | q
    · exact h.nd q
    · have := h.cpu.lt; omega
  · rcases h.foot i g with q | q
    · exact .inl (.inr q)
    · exact .inr q
  · rcases hs.foot k hk with q | q
    · exact h.foot k q
    · exact .inr (Nat.le_trans hz q)
  · rcases hs.foot k hk with q | q
    · exact h.nb.2.1 k q
    · omega
section
variable {w : World} {db rb : Nat} {lv : Value} {R : List Rp} {r : List Int} {pc : Int}
set_option maxRecDepth 100000 in
set_option maxHeartbeats 2000000 in
theorem stepD_lb_yes (hc : Cpu 124 w db r pc) (hr : Rsp w rb lv R) (hn : ¬ Rsp.foot rb lv R db) (hf : Sp.fitsB (rpgs R) pc 8 4 = true) (hd : Ins.decB (strOfNums (Sp.getL (rpgs R) pc 8)) = true)
    (d a b : Nat) (imm : Int) (hx : Ins.decI (strOfNums (Sp.getL (rpgs R) pc 8)) = ⟨33, d, a, b, imm⟩) (i0 : 0 ≤ imm) (i1 : imm ≤ 4294967295) (hd16 : d < 16) (ha : a < 16) (hb : b < 16) (hfm : Sp.fitsB (rpgs R) ((rg r a + imm) % 4294967296) 1 1 = true) :
    Calls Tryz.prog 152 #[.pointer (some ⟨db, 0, none⟩), .pointer (some ⟨rb, 0, none⟩)] w (SdStPost w db rb lv R (goes (rpgs R) (putG r d (getV (Sp.getL (rpgs R) ((rg r a + imm) % 4294967296) 1))) (next pc))) := by
  have hva := rg_bd hc.regs a
  have hvb := rg_bd hc.regs b
  have ha1 : (a : Int) < 16 := by omega
  have hb1 : (b : Int) < 16 := by omega
  have HMem : Hid (∀ V, Cpu 124 V db r pc → Rsp V rb lv R → Calls Tryz.prog 219 #[.pointer (some ⟨db, 0, none⟩), .pointer (some ⟨rb, 0, none⟩), .agg #[.int .u8 33, .int .u8 d, .int .u8 a, .int .u8 b, .int .u32 imm]] V (LdPost V db (putG r d (getV (Sp.getL (rpgs R) ((rg r a + imm) % 4294967296) 1))) pc rb lv R 0)) := Lib.hid fun V g1 g2 => mem33_yes g1 g2 hn d a b imm i0 i1 hd16 ha hb hfm
  have hE := fetch_yes hf
  have hbW : Below w.heap.size w (w.alloc (.cells #[.int .u8 0, .int .u32 0, .int .i64 0] 67)) := (Below.refl _ _).alloc (Nat.le_refl _) _
  have hcp := (hc.below hbW).cellPc
  have hF := Rs.get_any (hr.same hbW) pc 8 4 hc.p0 hc.p1 (by omega) (by omega)
  rw [hE.1, hE.2] at hF
  have HF := Lib.hid hF
  have HB := Lib.hid hbW
  have HR := Lib.hid (⟨heap_alloc_new w _⟩ : RsBox (w.alloc (.cells #[.int .u8 0, .int .u32 0, .int .i64 0] 67)) w.heap.size)
  have HD : Hid (∀ W, Calls Tryz.prog 216 #[.string (strOfNums (Sp.getL (rpgs R) pc 8))] W fun e w' => e = .returned (.tuple #[Ins.val ⟨33, d, a, b, imm⟩, .int .i64 0]) ∧ Below W.heap.size W w') := Lib.hid fun W => by
    have h := Ins.decodeR (strOfNums (Sp.getL (rpgs R) pc 8)) (by rw [size_strOfNums, Sp.getL_length]; omega) W
    unfold Ins.decX Ins.decE at h
    rw [hd, hx] at h
    exact h
  have HDV : Hid (∀ w2, Below w.heap.size w w2 → RsBox w2 w.heap.size → DV w (w2.alloc (.cells (insCells ⟨33, d, a, b, imm⟩) 144)) w2.heap.size ⟨33, d, a, b, imm⟩ db rb lv R R r pc) := Lib.hid fun w2 hb2 hr2 => by
    have hb3 : Below w2.heap.size w2 (w2.alloc (.cells (insCells ⟨33, d, a, b, imm⟩) 144)) := (Below.refl _ _).alloc (Nat.le_refl _) _
    have hl := lt_of_block hr2.blk
    have hdl := hc.lt
    exact ⟨(hc.below hb2).below hb3, (hr.same hb2).same hb3, hn, heap_alloc_new w2 _, hr2.frame (hb3.block _ hl), (Mod.of_below hb2 _).same (Mod.of_below hb3 _), fun _ g => .inl g, by omega, fun k hk => by have := hr.lt hk; omega, by omega, by omega⟩
  have HPQ : Hid (∀ V bx R' k n y r' pc', DV w V bx ⟨33, d, a, b, imm⟩ db rb lv R R' r' pc' → (⟨k, n, y, r', pc', rpgs R'⟩ : Out) = (goes (rpgs R) (putG r d (getV (Sp.getL (rpgs R) ((rg r a + imm) % 4294967296) 1))) (next pc)) → SdStPost w db rb lv R (goes (rpgs R) (putG r d (getV (Sp.getL (rpgs R) ((rg r a + imm) % 4294967296) 1))) (next pc)) (.returned (stopV k n y)) (((V.setCell ⟨w.heap.size, 0, none⟩ (.int .u8 k)).setCell ⟨w.heap.size, 1, none⟩ (.int .u32 n)).setCell ⟨w.heap.size, 2, none⟩ (.int .i64 y))) := Lib.hid fun V bx R' k n y r' pc' h e => by rw [← e]; exact h.fin k n y
  generalize SdStPost w db rb lv R (goes (rpgs R) (putG r d (getV (Sp.getL (rpgs R) ((rg r a + imm) % 4294967296) 1))) (next pc)) = PQ at *
  generalize strOfNums (Sp.getL (rpgs R) pc 8) = S at *
  have hnx : IntKind.u32.wrap (pc + 8) = next pc := by rw [IntKind.wrap_u32']; rfl
  clear hn hbW hE hf hF hd hx
  unfold Ins.val at HD
  simp only at HD
  go_enter Tryz.func152, Tryz.ntmps152
  go_wp2_with fail
  refine HF.out.mono ?_
  rintro e w1 ⟨rfl, hb1⟩
  have HR1 := Lib.hid (HR.out.frame (hb1.block _ (by simp)))
  have HB1 := Lib.hid (below_th HB.out hb1)
  clear hb1
  go_wp2_with fail
  refine (HD.out _).mono ?_
  rintro e w2 ⟨rfl, hb2⟩
  have hs1 := HR1.out.blk
  have hR2 := HR1.out.frame (hb2.block _ (lt_of_block hs1))
  have hB2 := below_th HB1.out hb2
  have hdv := HDV.out w2 hB2 hR2
  have hq1 := (hc.below hB2).cellPc
  have hq2 : db < w2.heap.size := (hc.below hB2).lt
  unfold insCells at hdv
  simp only at hdv
  clear hb2 hs1 HDV HD HF HR HR1 HB HB1
  generalize hW3 : w2.alloc (.cells #[.int .u8 33, .int .u8 d, .int .u8 a, .int .u8 b, .int .u32 imm] 144) = w3 at *
  have H3 := Lib.hid hdv
  obtain ⟨y0, y1, y2, y3, y4⟩ := hdv.cells
  simp only at y0 y1 y2 y3 y4
  have z0 := hdv.cpu.cellPc
  have z1 := hdv.cpu.cellReg a ha
  have z2 := hdv.cpu.cellReg b hb
  have z3 := hdv.cpu.thaw 16
  clear hdv hR2 hB2 hq1 hq2
  go_wp2_with fail
  refine (HMem.out _ H3.out.cpu H3.out.rsp).mono ?_
  rintro e w5 ⟨rfl, hc5, hr5, hm5⟩
  have hdv := H3.out.setC hc5 hm5
  obtain ⟨y0, y1, y2, y3, y4⟩ := hdv.cells
  simp only at y0 y1 y2 y3 y4
  have H5 := Lib.hid hdv
  clear hdv hc5 hr5 hm5 H3 z0 z1 z2 z3 HMem
  go_wp2_with fail
  refine (branches H5.out.cpu 33 d a b imm ha hb).mono ?_
  rintro e w6 ⟨rfl, hb6⟩
  have hbr : brV (putG r d (getV (Sp.getL (rpgs R) ((rg r a + imm) % 4294967296) 1))) ⟨33, d, a, b, imm⟩ = false := brV_low (by omega)
  rw [hbr]
  have hdv := H5.out.below hb6
  obtain ⟨y0, y1, y2, y3, y4⟩ := hdv.cells
  simp only at y0 y1 y2 y3 y4
  have z0 := hdv.cpu.cellPc
  have z3 := hdv.cpu.thaw 16
  obtain ⟨c0, c1, c2, f0, f1, f2⟩ := hdv.rs.cells
  have hne : w.heap.size ≠ db := by have := hdv.nb.2.2.1; omega
  have H6 := Lib.hid hdv
  clear hdv hb6 hbr
  go_wp2
  refine bodyPost_ret (v := stopV 0 0 0) (by simp [results, Tryz.results152, go_sem, stopV, *]) rfl ?_
  exact HPQ.out _ _ _ 0 0 0 _ _ (H6.out.setC (H6.out.cpu.setPc (next pc) (next_bd pc).1 (next_bd pc).2) (Mod.setCell (F := fun j => j = db) (Mod.refl _ _) _ (.inl rfl) _)) rfl
set_option maxRecDepth 100000 in
set_option maxHeartbeats 2000000 in
theorem stepD_lb_no (hc : Cpu 124 w db r pc) (hr : Rsp w rb lv R) (hn : ¬ Rsp.foot rb lv R db) (hf : Sp.fitsB (rpgs R) pc 8 4 = true) (hd : Ins.decB (strOfNums (Sp.getL (rpgs R) pc 8)) = true)
    (d a b : Nat) (imm : Int) (hx : Ins.decI (strOfNums (Sp.getL (rpgs R) pc 8)) = ⟨33, d, a, b, imm⟩) (i0 : 0 ≤ imm) (i1 : imm ≤ 4294967295) (hd16 : d < 16) (ha : a < 16) (hb : b < 16) (hfm : Sp.fitsB (rpgs R) ((rg r a + imm) % 4294967296) 1 1 = false) :
    Calls Tryz.prog 152 #[.pointer (some ⟨db, 0, none⟩), .pointer (some ⟨rb, 0, none⟩)] w (SdStPost w db rb lv R (faults (rpgs R) r pc 50)) := by
  have hva := rg_bd hc.regs a
  have hvb := rg_bd hc.regs b
  have ha1 : (a : Int) < 16 := by omega
  have hb1 : (b : Int) < 16 := by omega
  have HMem : Hid (∀ V, Cpu 124 V db r pc → Rsp V rb lv R → Calls Tryz.prog 219 #[.pointer (some ⟨db, 0, none⟩), .pointer (some ⟨rb, 0, none⟩), .agg #[.int .u8 33, .int .u8 d, .int .u8 a, .int .u8 b, .int .u32 imm]] V (LdPost V db r pc rb lv R 50)) := Lib.hid fun V g1 g2 => mem33_no g1 g2 hn d a b imm i0 i1 hd16 ha hb hfm
  have hE := fetch_yes hf
  have hbW : Below w.heap.size w (w.alloc (.cells #[.int .u8 0, .int .u32 0, .int .i64 0] 67)) := (Below.refl _ _).alloc (Nat.le_refl _) _
  have hcp := (hc.below hbW).cellPc
  have hF := Rs.get_any (hr.same hbW) pc 8 4 hc.p0 hc.p1 (by omega) (by omega)
  rw [hE.1, hE.2] at hF
  have HF := Lib.hid hF
  have HB := Lib.hid hbW
  have HR := Lib.hid (⟨heap_alloc_new w _⟩ : RsBox (w.alloc (.cells #[.int .u8 0, .int .u32 0, .int .i64 0] 67)) w.heap.size)
  have HD : Hid (∀ W, Calls Tryz.prog 216 #[.string (strOfNums (Sp.getL (rpgs R) pc 8))] W fun e w' => e = .returned (.tuple #[Ins.val ⟨33, d, a, b, imm⟩, .int .i64 0]) ∧ Below W.heap.size W w') := Lib.hid fun W => by
    have h := Ins.decodeR (strOfNums (Sp.getL (rpgs R) pc 8)) (by rw [size_strOfNums, Sp.getL_length]; omega) W
    unfold Ins.decX Ins.decE at h
    rw [hd, hx] at h
    exact h
  have HDV : Hid (∀ w2, Below w.heap.size w w2 → RsBox w2 w.heap.size → DV w (w2.alloc (.cells (insCells ⟨33, d, a, b, imm⟩) 144)) w2.heap.size ⟨33, d, a, b, imm⟩ db rb lv R R r pc) := Lib.hid fun w2 hb2 hr2 => by
    have hb3 : Below w2.heap.size w2 (w2.alloc (.cells (insCells ⟨33, d, a, b, imm⟩) 144)) := (Below.refl _ _).alloc (Nat.le_refl _) _
    have hl := lt_of_block hr2.blk
    have hdl := hc.lt
    exact ⟨(hc.below hb2).below hb3, (hr.same hb2).same hb3, hn, heap_alloc_new w2 _, hr2.frame (hb3.block _ hl), (Mod.of_below hb2 _).same (Mod.of_below hb3 _), fun _ g => .inl g, by omega, fun k hk => by have := hr.lt hk; omega, by omega, by omega⟩
  have HPQ : Hid (∀ V bx R' k n y r' pc', DV w V bx ⟨33, d, a, b, imm⟩ db rb lv R R' r' pc' → (⟨k, n, y, r', pc', rpgs R'⟩ : Out) = (faults (rpgs R) r pc 50) → SdStPost w db rb lv R (faults (rpgs R) r pc 50) (.returned (stopV k n y)) (((V.setCell ⟨w.heap.size, 0, none⟩ (.int .u8 k)).setCell ⟨w.heap.size, 1, none⟩ (.int .u32 n)).setCell ⟨w.heap.size, 2, none⟩ (.int .i64 y))) := Lib.hid fun V bx R' k n y r' pc' h e => by rw [← e]; exact h.fin k n y
  generalize SdStPost w db rb lv R (faults (rpgs R) r pc 50) = PQ at *
  generalize strOfNums (Sp.getL (rpgs R) pc 8) = S at *
  have hnx : IntKind.u32.wrap (pc + 8) = next pc := by rw [IntKind.wrap_u32']; rfl
  clear hn hbW hE hf hF hd hx
  unfold Ins.val at HD
  simp only at HD
  go_enter Tryz.func152, Tryz.ntmps152
  go_wp2_with fail
  refine HF.out.mono ?_
  rintro e w1 ⟨rfl, hb1⟩
  have HR1 := Lib.hid (HR.out.frame (hb1.block _ (by simp)))
  have HB1 := Lib.hid (below_th HB.out hb1)
  clear hb1
  go_wp2_with fail
  refine (HD.out _).mono ?_
  rintro e w2 ⟨rfl, hb2⟩
  have hs1 := HR1.out.blk
  have hR2 := HR1.out.frame (hb2.block _ (lt_of_block hs1))
  have hB2 := below_th HB1.out hb2
  have hdv := HDV.out w2 hB2 hR2
  have hq1 := (hc.below hB2).cellPc
  have hq2 : db < w2.heap.size := (hc.below hB2).lt
  unfold insCells at hdv
  simp only at hdv
  clear hb2 hs1 HDV HD HF HR HR1 HB HB1
  generalize hW3 : w2.alloc (.cells #[.int .u8 33, .int .u8 d, .int .u8 a, .int .u8 b, .int .u32 imm] 144) = w3 at *
  have H3 := Lib.hid hdv
  obtain ⟨y0, y1, y2, y3, y4⟩ := hdv.cells
  simp only at y0 y1 y2 y3 y4
  have z0 := hdv.cpu.cellPc
  have z1 := hdv.cpu.cellReg a ha
  have z2 := hdv.cpu.cellReg b hb
  have z3 := hdv.cpu.thaw 16
  clear hdv hR2 hB2 hq1 hq2
  go_wp2_with fail
  refine (HMem.out _ H3.out.cpu H3.out.rsp).mono ?_
  rintro e w5 ⟨rfl, hc5, hr5, hm5⟩
  have hdv := H3.out.setC hc5 hm5
  obtain ⟨y0, y1, y2, y3, y4⟩ := hdv.cells
  simp only at y0 y1 y2 y3 y4
  have H5 := Lib.hid hdv
  have hne : w.heap.size ≠ db := by have := hdv.nb.2.2.1; omega
  clear hdv hc5 hr5 hm5 H3 z0 z1 z2 z3 HMem
  go_wp2_with fail
  refine (faultD 50 _).mono ?_
  rintro e w6 ⟨rfl, hb6⟩
  have hdv := H5.out.below hb6
  obtain ⟨c0, c1, c2, f0, f1, f2⟩ := hdv.rs.cells
  have H6 := Lib.hid hdv
  clear hdv hb6
  go_wp2
  refine bodyPost_ret (v := stopV 2 0 50) (by simp [results, Tryz.results152, go_sem, stopV, *]) rfl ?_
  exact HPQ.out _ _ _ 2 0 50 _ _ H6.out rfl
set_option maxRecDepth 100000 in
set_option maxHeartbeats 2000000 in
theorem stepD_lw_yes (hc : Cpu 124 w db r pc) (hr : Rsp w rb lv R) (hn : ¬ Rsp.foot rb lv R db) (hf : Sp.fitsB (rpgs R) pc 8 4 = true) (hd : Ins.decB (strOfNums (Sp.getL (rpgs R) pc 8)) = true)
    (d a b : Nat) (imm : Int) (hx : Ins.decI (strOfNums (Sp.getL (rpgs R) pc 8)) = ⟨34, d, a, b, imm⟩) (i0 : 0 ≤ imm) (i1 : imm ≤ 4294967295) (hd16 : d < 16) (ha : a < 16) (hb : b < 16) (hfm : Sp.fitsB (rpgs R) ((rg r a + imm) % 4294967296) 4 1 = true) :
    Calls Tryz.prog 152 #[.pointer (some ⟨db, 0, none⟩), .pointer (some ⟨rb, 0, none⟩)] w (SdStPost w db rb lv R (goes (rpgs R) (putG r d (getV (Sp.getL (rpgs R) ((rg r a + imm) % 4294967296) 4))) (next pc))) := by
  have hva := rg_bd hc.regs a
  have hvb := rg_bd hc.regs b
  have ha1 : (a : Int) < 16 := by omega
  have hb1 : (b : Int) < 16 := by omega
  have HMem : Hid (∀ V, Cpu 124 V db r pc → Rsp V rb lv R → Calls Tryz.prog 219 #[.pointer (some ⟨db, 0, none⟩), .pointer (some ⟨rb, 0, none⟩), .agg #[.int .u8 34, .int .u8 d, .int .u8 a, .int .u8 b, .int .u32 imm]] V (LdPost V db (putG r d (getV (Sp.getL (rpgs R) ((rg r a + imm) % 4294967296) 4))) pc rb lv R 0)) := Lib.hid fun V g1 g2 => mem34_yes g1 g2 hn d a b imm i0 i1 hd16 ha hb hfm
  have hE := fetch_yes hf
  have hbW : Below w.heap.size w (w.alloc (.cells #[.int .u8 0, .int .u32 0, .int .i64 0] 67)) := (Below.refl _ _).alloc (Nat.le_refl _) _
  have hcp := (hc.below hbW).cellPc
  have hF := Rs.get_any (hr.same hbW) pc 8 4 hc.p0 hc.p1 (by omega) (by omega)
  rw [hE.1, hE.2] at hF
  have HF := Lib.hid hF
  have HB := Lib.hid hbW
  have HR := Lib.hid (⟨heap_alloc_new w _⟩ : RsBox (w.alloc (.cells #[.int .u8 0, .int .u32 0, .int .i64 0] 67)) w.heap.size)
  have HD : Hid (∀ W, Calls Tryz.prog 216 #[.string (strOfNums (Sp.getL (rpgs R) pc 8))] W fun e w' => e = .returned (.tuple #[Ins.val ⟨34, d, a, b, imm⟩, .int .i64 0]) ∧ Below W.heap.size W w') := Lib.hid fun W => by
    have h := Ins.decodeR (strOfNums (Sp.getL (rpgs R) pc 8)) (by rw [size_strOfNums, Sp.getL_length]; omega) W
    unfold Ins.decX Ins.decE at h
    rw [hd, hx] at h
    exact h
  have HDV : Hid (∀ w2, Below w.heap.size w w2 → RsBox w2 w.heap.size → DV w (w2.alloc (.cells (insCells ⟨34, d, a, b, imm⟩) 144)) w2.heap.size ⟨34, d, a, b, imm⟩ db rb lv R R r pc) := Lib.hid fun w2 hb2 hr2 => by
    have hb3 : Below w2.heap.size w2 (w2.alloc (.cells (insCells ⟨34, d, a, b, imm⟩) 144)) := (Below.refl _ _).alloc (Nat.le_refl _) _
    have hl := lt_of_block hr2.blk
    have hdl := hc.lt
    exact ⟨(hc.below hb2).below hb3, (hr.same hb2).same hb3, hn, heap_alloc_new w2 _, hr2.frame (hb3.block _ hl), (Mod.of_below hb2 _).same (Mod.of_below hb3 _), fun _ g => .inl g, by omega, fun k hk => by have := hr.lt hk; omega, by omega, by omega⟩
  have HPQ : Hid (∀ V bx R' k n y r' pc', DV w V bx ⟨34, d, a, b, imm⟩ db rb lv R R' r' pc' → (⟨k, n, y, r', pc', rpgs R'⟩ : Out) = (goes (rpgs R) (putG r d (getV (Sp.getL (rpgs R) ((rg r a + imm) % 4294967296) 4))) (next pc)) → SdStPost w db rb lv R (goes (rpgs R) (putG r d (getV (Sp.getL (rpgs R) ((rg r a + imm) % 4294967296) 4))) (next pc)) (.returned (stopV k n y)) (((V.setCell ⟨w.heap.size, 0, none⟩ (.int .u8 k)).setCell ⟨w.heap.size, 1, none⟩ (.int .u32 n)).setCell ⟨w.heap.size, 2, none⟩ (.int .i64 y))) := Lib.hid fun V bx R' k n y r' pc' h e => by rw [← e]; exact h.fin k n y
  generalize SdStPost w db rb lv R (goes (rpgs R) (putG r d (getV (Sp.getL (rpgs R) ((rg r a + imm) % 4294967296) 4))) (next pc)) = PQ at *
  generalize strOfNums (Sp.getL (rpgs R) pc 8) = S at *
  have hnx : IntKind.u32.wrap (pc + 8) = next pc := by rw [IntKind.wrap_u32']; rfl
  clear hn hbW hE hf hF hd hx
  unfold Ins.val at HD
  simp only at HD
  go_enter Tryz.func152, Tryz.ntmps152
  go_wp2_with fail
  refine HF.out.mono ?_
  rintro e w1 ⟨rfl, hb1⟩
  have HR1 := Lib.hid (HR.out.frame (hb1.block _ (by simp)))
  have HB1 := Lib.hid (below_th HB.out hb1)
  clear hb1
  go_wp2_with fail
  refine (HD.out _).mono ?_
  rintro e w2 ⟨rfl, hb2⟩
  have hs1 := HR1.out.blk
  have hR2 := HR1.out.frame (hb2.block _ (lt_of_block hs1))
  have hB2 := below_th HB1.out hb2
  have hdv := HDV.out w2 hB2 hR2
  have hq1 := (hc.below hB2).cellPc
  have hq2 : db < w2.heap.size := (hc.below hB2).lt
  unfold insCells at hdv
  simp only at hdv
  clear hb2 hs1 HDV HD HF HR HR1 HB HB1
  generalize hW3 : w2.alloc (.cells #[.int .u8 34, .int .u8 d, .int .u8 a, .int .u8 b, .int .u32 imm] 144) = w3 at *
  have H3 := Lib.hid hdv
  obtain ⟨y0, y1, y2, y3, y4⟩ := hdv.cells
  simp only at y0 y1 y2 y3 y4
  have z0 := hdv.cpu.cellPc
  have z1 := hdv.cpu.cellReg a ha
  have z2 := hdv.cpu.cellReg b hb
  have z3 := hdv.cpu.thaw 16
  clear hdv hR2 hB2 hq1 hq2
  go_wp2_with fail
  refine (HMem.out _ H3.out.cpu H3.out.rsp).mono ?_
  rintro e w5 ⟨rfl, hc5, hr5, hm5⟩
  have hdv := H3.out.setC hc5 hm5
  obtain ⟨y0, y1, y2, y3, y4⟩ := hdv.cells
  simp only at y0 y1 y2 y3 y4
  have H5 := Lib.hid hdv
  clear hdv hc5 hr5 hm5 H3 z0 z1 z2 z3 HMem
  go_wp2_with fail
  refine (branches H5.out.cpu 34 d a b imm ha hb).mono ?_
  rintro e w6 ⟨rfl, hb6⟩
  have hbr : brV (putG r d (getV (Sp.getL (rpgs R) ((rg r a + imm) % 4294967296) 4))) ⟨34, d, a, b, imm⟩ = false := brV_low (by omega)
  rw [hbr]
  have hdv := H5.out.below hb6
  obtain ⟨y0, y1, y2, y3, y4⟩ := hdv.cells
  simp only at y0 y1 y2 y3 y4
  have z0 := hdv.cpu.cellPc
  have z3 := hdv.cpu.thaw 16
  obtain ⟨c0, c1, c2, f0, f1, f2⟩ := hdv.rs.cells
  have hne : w.heap.size ≠ db := by have := hdv.nb.2.2.1; omega
  have H6 := Lib.hid hdv
  clear hdv hb6 hbr
  go_wp2
  refine bodyPost_ret (v := stopV 0 0 0) (by simp [results, Tryz.results152, go_sem, stopV, *]) rfl ?_
  exact HPQ.out _ _ _ 0 0 0 _ _ (H6.out.setC (H6.out.cpu.setPc (next pc) (next_bd pc).1 (next_bd pc).2) (Mod.setCell (F := fun j => j = db) (Mod.refl _ _) _ (.inl rfl) _)) rfl
set_option maxRecDepth 100000 in
set_option maxHeartbeats 2000000 in
theorem stepD_lw_no (hc : Cpu 124 w db r pc) (hr : Rsp w rb lv R) (hn : ¬ Rsp.foot rb lv R db) (hf : Sp.fitsB (rpgs R) pc 8 4 = true) (hd : Ins.decB (strOfNums (Sp.getL (rpgs R) pc 8)) = true)
    (d a b : Nat) (imm : Int) (hx : Ins.decI (strOfNums (Sp.getL (rpgs R) pc 8)) = ⟨34, d, a, b, imm⟩) (i0 : 0 ≤ imm) (i1 : imm ≤ 4294967295) (hd16 : d < 16) (ha : a < 16) (hb : b < 16) (hfm : Sp.fitsB (rpgs R) ((rg r a + imm) % 4294967296) 4 1 = false) :
    Calls Tryz.prog 152 #[.pointer (some ⟨db, 0, none⟩), .pointer (some ⟨rb, 0, none⟩)] w (SdStPost w db rb lv R (faults (rpgs R) r pc 50)) := by
  have hva := rg_bd hc.regs a
  have hvb := rg_bd hc.regs b
  have ha1 : (a : Int) < 16 := by omega
  have hb1 : (b : Int) < 16 := by omega
  have HMem : Hid (∀ V, Cpu 124 V db r pc → Rsp V rb lv R → Calls Tryz.prog 219 #[.pointer (some ⟨db, 0, none⟩), .pointer (some ⟨rb, 0, none⟩), .agg #[.int .u8 34, .int .u8 d, .int .u8 a, .int .u8 b, .int .u32 imm]] V (LdPost V db r pc rb lv R 50)) := Lib.hid fun V g1 g2 => mem34_no g1 g2 hn d a b imm i0 i1 hd16 ha hb hfm
  have hE := fetch_yes hf
  have hbW : Below w.heap.size w (w.alloc (.cells #[.int .u8 0, .int .u32 0, .int .i64 0] 67)) := (Below.refl _ _).alloc (Nat.le_refl _) _
  have hcp := (hc.below hbW).cellPc
  have hF := Rs.get_any (hr.same hbW) pc 8 4 hc.p0 hc.p1 (by omega) (by omega)
  rw [hE.1, hE.2] at hF
  have HF := Lib.hid hF
  have HB := Lib.hid hbW
  have HR := Lib.hid (⟨heap_alloc_new w _⟩ : RsBox (w.alloc (.cells #[.int .u8 0, .int .u32 0, .int .i64 0] 67)) w.heap.size)
  have HD : Hid (∀ W, Calls Tryz.prog 216 #[.string (strOfNums (Sp.getL (rpgs R) pc 8))] W fun e w' => e = .returned (.tuple #[Ins.val ⟨34, d, a, b, imm⟩, .int .i64 0]) ∧ Below W.heap.size W w') := Lib.hid fun W => by
    have h := Ins.decodeR (strOfNums (Sp.getL (rpgs R) pc 8)) (by rw [size_strOfNums, Sp.getL_length]; omega) W
    unfold Ins.decX Ins.decE at h
    rw [hd, hx] at h
    exact h
  have HDV : Hid (∀ w2, Below w.heap.size w w2 → RsBox w2 w.heap.size → DV w (w2.alloc (.cells (insCells ⟨34, d, a, b, imm⟩) 144)) w2.heap.size ⟨34, d, a, b, imm⟩ db rb lv R R r pc) := Lib.hid fun w2 hb2 hr2 => by
    have hb3 : Below w2.heap.size w2 (w2.alloc (.cells (insCells ⟨34, d, a, b, imm⟩) 144)) := (Below.refl _ _).alloc (Nat.le_refl _) _
    have hl := lt_of_block hr2.blk
    have hdl := hc.lt
    exact ⟨(hc.below hb2).below hb3, (hr.same hb2).same hb3, hn, heap_alloc_new w2 _, hr2.frame (hb3.block _ hl), (Mod.of_below hb2 _).same (Mod.of_below hb3 _), fun _ g => .inl g, by omega, fun k hk => by have := hr.lt hk; omega, by omega, by omega⟩
  have HPQ : Hid (∀ V bx R' k n y r' pc', DV w V bx ⟨34, d, a, b, imm⟩ db rb lv R R' r' pc' → (⟨k, n, y, r', pc', rpgs R'⟩ : Out) = (faults (rpgs R) r pc 50) → SdStPost w db rb lv R (faults (rpgs R) r pc 50) (.returned (stopV k n y)) (((V.setCell ⟨w.heap.size, 0, none⟩ (.int .u8 k)).setCell ⟨w.heap.size, 1, none⟩ (.int .u32 n)).setCell ⟨w.heap.size, 2, none⟩ (.int .i64 y))) := Lib.hid fun V bx R' k n y r' pc' h e => by rw [← e]; exact h.fin k n y
  generalize SdStPost w db rb lv R (faults (rpgs R) r pc 50) = PQ at *
  generalize strOfNums (Sp.getL (rpgs R) pc 8) = S at *
  have hnx : IntKind.u32.wrap (pc + 8) = next pc := by rw [IntKind.wrap_u32']; rfl
  clear hn hbW hE hf hF hd hx
  unfold Ins.val at HD
  simp only at HD
  go_enter Tryz.func152, Tryz.ntmps152
  go_wp2_with fail
  refine HF.out.mono ?_
  rintro e w1 ⟨rfl, hb1⟩
  have HR1 := Lib.hid (HR.out.frame (hb1.block _ (by simp)))
  have HB1 := Lib.hid (below_th HB.out hb1)
  clear hb1
  go_wp2_with fail
  refine (HD.out _).mono ?_
  rintro e w2 ⟨rfl, hb2⟩
  have hs1 := HR1.out.blk
  have hR2 := HR1.out.frame (hb2.block _ (lt_of_block hs1))
  have hB2 := below_th HB1.out hb2
  have hdv := HDV.out w2 hB2 hR2
  have hq1 := (hc.below hB2).cellPc
  have hq2 : db < w2.heap.size := (hc.below hB2).lt
  unfold insCells at hdv
  simp only at hdv
  clear hb2 hs1 HDV HD HF HR HR1 HB HB1
  generalize hW3 : w2.alloc (.cells #[.int .u8 34, .int .u8 d, .int .u8 a, .int .u8 b, .int .u32 imm] 144) = w3 at *
  have H3 := Lib.hid hdv
  obtain ⟨y0, y1, y2, y3, y4⟩ := hdv.cells
  simp only at y0 y1 y2 y3 y4
  have z0 := hdv.cpu.cellPc
  have z1 := hdv.cpu.cellReg a ha
  have z2 := hdv.cpu.cellReg b hb
  have z3 := hdv.cpu.thaw 16
  clear hdv hR2 hB2 hq1 hq2
  go_wp2_with fail
  refine (HMem.out _ H3.out.cpu H3.out.rsp).mono ?_
  rintro e w5 ⟨rfl, hc5, hr5, hm5⟩
  have hdv := H3.out.setC hc5 hm5
  obtain ⟨y0, y1, y2, y3, y4⟩ := hdv.cells
  simp only at y0 y1 y2 y3 y4
  have H5 := Lib.hid hdv
  have hne : w.heap.size ≠ db := by have := hdv.nb.2.2.1; omega
  clear hdv hc5 hr5 hm5 H3 z0 z1 z2 z3 HMem
  go_wp2_with fail
  refine (faultD 50 _).mono ?_
  rintro e w6 ⟨rfl, hb6⟩
  have hdv := H5.out.below hb6
  obtain ⟨c0, c1, c2, f0, f1, f2⟩ := hdv.rs.cells
  have H6 := Lib.hid hdv
  clear hdv hb6
  go_wp2
  refine bodyPost_ret (v := stopV 2 0 50) (by simp [results, Tryz.results152, go_sem, stopV, *]) rfl ?_
  exact HPQ.out _ _ _ 2 0 50 _ _ H6.out rfl
set_option maxRecDepth 100000 in
set_option maxHeartbeats 2000000 in
theorem stepD_sb_yes (hc : Cpu 124 w db r pc) (hr : Rsp w rb lv R) (hn : ¬ Rsp.foot rb lv R db) (hf : Sp.fitsB (rpgs R) pc 8 4 = true) (hd : Ins.decB (strOfNums (Sp.getL (rpgs R) pc 8)) = true)
    (d a b : Nat) (imm : Int) (hx : Ins.decI (strOfNums (Sp.getL (rpgs R) pc 8)) = ⟨35, d, a, b, imm⟩) (i0 : 0 ≤ imm) (i1 : imm ≤ 4294967295) (hd16 : d < 16) (ha : a < 16) (hb : b < 16) (hfm : Sp.fitsB (rpgs R) ((rg r a + imm) % 4294967296) 1 2 = true) :
    Calls Tryz.prog 152 #[.pointer (some ⟨db, 0, none⟩), .pointer (some ⟨rb, 0, none⟩)] w (SdStPost w db rb lv R (goes (putN (rpgs R) ((rg r a + imm) % 4294967296) ((putL (rg r b)).take 1) 1) r (next pc))) := by
  have hva := rg_bd hc.regs a
  have hvb := rg_bd hc.regs b
  have ha1 : (a : Int) < 16 := by omega
  have hb1 : (b : Int) < 16 := by omega
  have HMem : Hid (∀ V, Cpu 124 V db r pc → Rsp V rb lv R → Calls Tryz.prog 219 #[.pointer (some ⟨db, 0, none⟩), .pointer (some ⟨rb, 0, none⟩), .agg #[.int .u8 35, .int .u8 d, .int .u8 a, .int .u8 b, .int .u32 imm]] V (SdPost V db r pc rb lv R (putN (rpgs R) ((rg r a + imm) % 4294967296) ((putL (rg r b)).take 1) 1) 0)) := Lib.hid fun V g1 g2 => mem35_yes g1 g2 hn d a b imm i0 i1 hd16 ha hb hfm
  have hE := fetch_yes hf
  have hbW : Below w.heap.size w (w.alloc (.cells #[.int .u8 0, .int .u32 0, .int .i64 0] 67)) := (Below.refl _ _).alloc (Nat.le_refl _) _
  have hcp := (hc.below hbW).cellPc
  have hF := Rs.get_any (hr.same hbW) pc 8 4 hc.p0 hc.p1 (by omega) (by omega)
  rw [hE.1, hE.2] at hF
  have HF := Lib.hid hF
  have HB := Lib.hid hbW
  have HR := Lib.hid (⟨heap_alloc_new w _⟩ : RsBox (w.alloc (.cells #[.int .u8 0, .int .u32 0, .int .i64 0] 67)) w.heap.size)
  have HD : Hid (∀ W, Calls Tryz.prog 216 #[.string (strOfNums (Sp.getL (rpgs R) pc 8))] W fun e w' => e = .returned (.tuple #[Ins.val ⟨35, d, a, b, imm⟩, .int .i64 0]) ∧ Below W.heap.size W w') := Lib.hid fun W => by
    have h := Ins.decodeR (strOfNums (Sp.getL (rpgs R) pc 8)) (by rw [size_strOfNums, Sp.getL_length]; omega) W
    unfold Ins.decX Ins.decE at h
    rw [hd, hx] at h
    exact h
  have HDV : Hid (∀ w2, Below w.heap.size w w2 → RsBox w2 w.heap.size → DV w (w2.alloc (.cells (insCells ⟨35, d, a, b, imm⟩) 144)) w2.heap.size ⟨35, d, a, b, imm⟩ db rb lv R R r pc) := Lib.hid fun w2 hb2 hr2 => by
    have hb3 : Below w2.heap.size w2 (w2.alloc (.cells (insCells ⟨35, d, a, b, imm⟩) 144)) := (Below.refl _ _).alloc (Nat.le_refl _) _
    have hl := lt_of_block hr2.blk
    have hdl := hc.lt
    exact ⟨(hc.below hb2).below hb3, (hr.same hb2).same hb3, hn, heap_alloc_new w2 _, hr2.frame (hb3.block _ hl), (Mod.of_below hb2 _).same (Mod.of_below hb3 _), fun _ g => .inl g, by omega, fun k hk => by have := hr.lt hk; omega, by omega, by omega⟩
  have HPQ : Hid (∀ V bx R' k n y r' pc', DV w V bx ⟨35, d, a, b, imm⟩ db rb lv R R' r' pc' → (⟨k, n, y, r', pc', rpgs R'⟩ : Out) = (goes (putN (rpgs R) ((rg r a + imm) % 4294967296) ((putL (rg r b)).take 1) 1) r (next pc)) → SdStPost w db rb lv R (goes (putN (rpgs R) ((rg r a + imm) % 4294967296) ((putL (rg r b)).take 1) 1) r (next pc)) (.returned (stopV k n y)) (((V.setCell ⟨w.heap.size, 0, none⟩ (.int .u8 k)).setCell ⟨w.heap.size, 1, none⟩ (.int .u32 n)).setCell ⟨w.heap.size, 2, none⟩ (.int .i64 y))) := Lib.hid fun V bx R' k n y r' pc' h e => by rw [← e]; exact h.fin k n y
  generalize SdStPost w db rb lv R (goes (putN (rpgs R) ((rg r a + imm) % 4294967296) ((putL (rg r b)).take 1) 1) r (next pc)) = PQ at *
  generalize strOfNums (Sp.getL (rpgs R) pc 8) = S at *
  have hnx : IntKind.u32.wrap (pc + 8) = next pc := by rw [IntKind.wrap_u32']; rfl
  clear hn hbW hE hf hF hd hx
  unfold Ins.val at HD
  simp only at HD
  go_enter Tryz.func152, Tryz.ntmps152
  go_wp2_with fail
  refine HF.out.mono ?_
  rintro e w1 ⟨rfl, hb1⟩
  have HR1 := Lib.hid (HR.out.frame (hb1.block _ (by simp)))
  have HB1 := Lib.hid (below_th HB.out hb1)
  clear hb1
  go_wp2_with fail
  refine (HD.out _).mono ?_
  rintro e w2 ⟨rfl, hb2⟩
  have hs1 := HR1.out.blk
  have hR2 := HR1.out.frame (hb2.block _ (lt_of_block hs1))
  have hB2 := below_th HB1.out hb2
  have hdv := HDV.out w2 hB2 hR2
  have hq1 := (hc.below hB2).cellPc
  have hq2 : db < w2.heap.size := (hc.below hB2).lt
  unfold insCells at hdv
  simp only at hdv
  clear hb2 hs1 HDV HD HF HR HR1 HB HB1
  generalize hW3 : w2.alloc (.cells #[.int .u8 35, .int .u8 d, .int .u8 a, .int .u8 b, .int .u32 imm] 144) = w3 at *
  have H3 := Lib.hid hdv
  obtain ⟨y0, y1, y2, y3, y4⟩ := hdv.cells
  simp only at y0 y1 y2 y3 y4
  have z0 := hdv.cpu.cellPc
  have z1 := hdv.cpu.cellReg a ha
  have z2 := hdv.cpu.cellReg b hb
  have z3 := hdv.cpu.thaw 16
  clear hdv hR2 hB2 hq1 hq2
  go_wp2_with fail
  refine (HMem.out _ H3.out.cpu H3.out.rsp).mono ?_
  rintro e w5 ⟨R5, rfl, hc5, hR5, hs5⟩
  have hdv := H3.out.setR hc5 hs5
  have HR5 := Lib.hid hR5
  clear hR5
  obtain ⟨y0, y1, y2, y3, y4⟩ := hdv.cells
  simp only at y0 y1 y2 y3 y4
  have H5 := Lib.hid hdv
  clear hdv hc5 hs5 H3 z0 z1 z2 z3 HMem
  go_wp2_with fail
  refine (branches H5.out.cpu 35 d a b imm ha hb).mono ?_
  rintro e w6 ⟨rfl, hb6⟩
  have hbr : brV r ⟨35, d, a, b, imm⟩ = false := brV_low (by omega)
  rw [hbr]
  have hdv := H5.out.below hb6
  obtain ⟨y0, y1, y2, y3, y4⟩ := hdv.cells
  simp only at y0 y1 y2 y3 y4
  have z0 := hdv.cpu.cellPc
  have z3 := hdv.cpu.thaw 16
  obtain ⟨c0, c1, c2, f0, f1, f2⟩ := hdv.rs.cells
  have hne : w.heap.size ≠ db := by have := hdv.nb.2.2.1; omega
  have H6 := Lib.hid hdv
  clear hdv hb6 hbr
  go_wp2
  refine bodyPost_ret (v := stopV 0 0 0) (by simp [results, Tryz.results152, go_sem, stopV, *]) rfl ?_
  exact HPQ.out _ _ _ 0 0 0 _ _ (H6.out.setC (H6.out.cpu.setPc (next pc) (next_bd pc).1 (next_bd pc).2) (Mod.setCell (F := fun j => j = db) (Mod.refl _ _) _ (.inl rfl) _)) (by rw [HR5.out]; rfl)
set_option maxRecDepth 100000 in
set_option maxHeartbeats 2000000 in
theorem stepD_sb_no (hc : Cpu 124 w db r pc) (hr : Rsp w rb lv R) (hn : ¬ Rsp.foot rb lv R db) (hf : Sp.fitsB (rpgs R) pc 8 4 = true) (hd : Ins.decB (strOfNums (Sp.getL (rpgs R) pc 8)) = true)
    (d a b : Nat) (imm : Int) (hx : Ins.decI (strOfNums (Sp.getL (rpgs R) pc 8)) = ⟨35, d, a, b, imm⟩) (i0 : 0 ≤ imm) (i1 : imm ≤ 4294967295) (hd16 : d < 16) (ha : a < 16) (hb : b < 16) (hfm : Sp.fitsB (rpgs R) ((rg r a + imm) % 4294967296) 1 2 = false) :
    Calls Tryz.prog 152 #[.pointer (some ⟨db, 0, none⟩), .pointer (some ⟨rb, 0, none⟩)] w (SdStPost w db rb lv R (faults (rpgs R) r pc 50)) := by
  have hva := rg_bd hc.regs a
  have hvb := rg_bd hc.regs b
  have ha1 : (a : Int) < 16 := by omega
  have hb1 : (b : Int) < 16 := by omega
  have HMem : Hid (∀ V, Cpu 124 V db r pc → Rsp V rb lv R → Calls Tryz.prog 219 #[.pointer (some ⟨db, 0, none⟩), .pointer (some ⟨rb, 0, none⟩), .agg #[.int .u8 35, .int .u8 d, .int .u8 a, .int .u8 b, .int .u32 imm]] V (SdPost V db r pc rb lv R (rpgs R) 50)) := Lib.hid fun V g1 g2 => mem35_no g1 g2 hn d a b imm i0 i1 hd16 ha hb hfm
  have hE := fetch_yes hf
  have hbW : Below w.heap.size w (w.alloc (.cells #[.int .u8 0, .int .u32 0, .int .i64 0] 67)) := (Below.refl _ _).alloc (Nat.le_refl _) _
  have hcp := (hc.below hbW).cellPc
  have hF := Rs.get_any (hr.same hbW) pc 8 4 hc.p0 hc.p1 (by omega) (by omega)
  rw [hE.1, hE.2] at hF
  have HF := Lib.hid hF
  have HB := Lib.hid hbW
  have HR := Lib.hid (⟨heap_alloc_new w _⟩ : RsBox (w.alloc (.cells #[.int .u8 0, .int .u32 0, .int .i64 0] 67)) w.heap.size)
  have HD : Hid (∀ W, Calls Tryz.prog 216 #[.string (strOfNums (Sp.getL (rpgs R) pc 8))] W fun e w' => e = .returned (.tuple #[Ins.val ⟨35, d, a, b, imm⟩, .int .i64 0]) ∧ Below W.heap.size W w') := Lib.hid fun W => by
    have h := Ins.decodeR (strOfNums (Sp.getL (rpgs R) pc 8)) (by rw [size_strOfNums, Sp.getL_length]; omega) W
    unfold Ins.decX Ins.decE at h
    rw [hd, hx] at h
    exact h
  have HDV : Hid (∀ w2, Below w.heap.size w w2 → RsBox w2 w.heap.size → DV w (w2.alloc (.cells (insCells ⟨35, d, a, b, imm⟩) 144)) w2.heap.size ⟨35, d, a, b, imm⟩ db rb lv R R r pc) := Lib.hid fun w2 hb2 hr2 => by
    have hb3 : Below w2.heap.size w2 (w2.alloc (.cells (insCells ⟨35, d, a, b, imm⟩) 144)) := (Below.refl _ _).alloc (Nat.le_refl _) _
    have hl := lt_of_block hr2.blk
    have hdl := hc.lt
    exact ⟨(hc.below hb2).below hb3, (hr.same hb2).same hb3, hn, heap_alloc_new w2 _, hr2.frame (hb3.block _ hl), (Mod.of_below hb2 _).same (Mod.of_below hb3 _), fun _ g => .inl g, by omega, fun k hk => by have := hr.lt hk; omega, by omega, by omega⟩
  have HPQ : Hid (∀ V bx R' k n y r' pc', DV w V bx ⟨35, d, a, b, imm⟩ db rb lv R R' r' pc' → (⟨k, n, y, r', pc', rpgs R'⟩ : Out) = (faults (rpgs R) r pc 50) → SdStPost w db rb lv R (faults (rpgs R) r pc 50) (.returned (stopV k n y)) (((V.setCell ⟨w.heap.size, 0, none⟩ (.int .u8 k)).setCell ⟨w.heap.size, 1, none⟩ (.int .u32 n)).setCell ⟨w.heap.size, 2, none⟩ (.int .i64 y))) := Lib.hid fun V bx R' k n y r' pc' h e => by rw [← e]; exact h.fin k n y
  generalize SdStPost w db rb lv R (faults (rpgs R) r pc 50) = PQ at *
  generalize strOfNums (Sp.getL (rpgs R) pc 8) = S at *
  have hnx : IntKind.u32.wrap (pc + 8) = next pc := by rw [IntKind.wrap_u32']; rfl
  clear hn hbW hE hf hF hd hx
  unfold Ins.val at HD
  simp only at HD
  go_enter Tryz.func152, Tryz.ntmps152
  go_wp2_with fail
  refine HF.out.mono ?_
  rintro e w1 ⟨rfl, hb1⟩
  have HR1 := Lib.hid (HR.out.frame (hb1.block _ (by simp)))
  have HB1 := Lib.hid (below_th HB.out hb1)
  clear hb1
  go_wp2_with fail
  refine (HD.out _).mono ?_
  rintro e w2 ⟨rfl, hb2⟩
  have hs1 := HR1.out.blk
  have hR2 := HR1.out.frame (hb2.block _ (lt_of_block hs1))
  have hB2 := below_th HB1.out hb2
  have hdv := HDV.out w2 hB2 hR2
  have hq1 := (hc.below hB2).cellPc
  have hq2 : db < w2.heap.size := (hc.below hB2).lt
  unfold insCells at hdv
  simp only at hdv
  clear hb2 hs1 HDV HD HF HR HR1 HB HB1
  generalize hW3 : w2.alloc (.cells #[.int .u8 35, .int .u8 d, .int .u8 a, .int .u8 b, .int .u32 imm] 144) = w3 at *
  have H3 := Lib.hid hdv
  obtain ⟨y0, y1, y2, y3, y4⟩ := hdv.cells
  simp only at y0 y1 y2 y3 y4
  have z0 := hdv.cpu.cellPc
  have z1 := hdv.cpu.cellReg a ha
  have z2 := hdv.cpu.cellReg b hb
  have z3 := hdv.cpu.thaw 16
  clear hdv hR2 hB2 hq1 hq2
  go_wp2_with fail
  refine (HMem.out _ H3.out.cpu H3.out.rsp).mono ?_
  rintro e w5 ⟨R5, rfl, hc5, hR5, hs5⟩
  have hdv := H3.out.setR hc5 hs5
  have HR5 := Lib.hid hR5
  clear hR5
  obtain ⟨y0, y1, y2, y3, y4⟩ := hdv.cells
  simp only at y0 y1 y2 y3 y4
  have H5 := Lib.hid hdv
  have hne : w.heap.size ≠ db := by have := hdv.nb.2.2.1; omega
  clear hdv hc5 hs5 H3 z0 z1 z2 z3 HMem
  go_wp2_with fail
  refine (faultD 50 _).mono ?_
  rintro e w6 ⟨rfl, hb6⟩
  have hdv := H5.out.below hb6
  obtain ⟨c0, c1, c2, f0, f1, f2⟩ := hdv.rs.cells
  have H6 := Lib.hid hdv
  clear hdv hb6
  go_wp2
  refine bodyPost_ret (v := stopV 2 0 50) (by simp [results, Tryz.results152, go_sem, stopV, *]) rfl ?_
  exact HPQ.out _ _ _ 2 0 50 _ _ H6.out (by rw [HR5.out]; rfl)
set_option maxRecDepth 100000 in
set_option maxHeartbeats 2000000 in
theorem stepD_sw_yes (hc : Cpu 124 w db r pc) (hr : Rsp w rb lv R) (hn : ¬ Rsp.foot rb lv R db) (hf : Sp.fitsB (rpgs R) pc 8 4 = true) (hd : Ins.decB (strOfNums (Sp.getL (rpgs R) pc 8)) = true)
    (d a b : Nat) (imm : Int) (hx : Ins.decI (strOfNums (Sp.getL (rpgs R) pc 8)) = ⟨36, d, a, b, imm⟩) (i0 : 0 ≤ imm) (i1 : imm ≤ 4294967295) (hd16 : d < 16) (ha : a < 16) (hb : b < 16) (hfm : Sp.fitsB (rpgs R) ((rg r a + imm) % 4294967296) 4 2 = true) :
    Calls Tryz.prog 152 #[.pointer (some ⟨db, 0, none⟩), .pointer (some ⟨rb, 0, none⟩)] w (SdStPost w db rb lv R (goes (putN (rpgs R) ((rg r a + imm) % 4294967296) ((putL (rg r b)).take 4) 4) r (next pc))) := by
  have hva := rg_bd hc.regs a
  have hvb := rg_bd hc.regs b
  have ha1 : (a : Int) < 16 := by omega
  have hb1 : (b : Int) < 16 := by omega
  have HMem : Hid (∀ V, Cpu 124 V db r pc → Rsp V rb lv R → Calls Tryz.prog 219 #[.pointer (some ⟨db, 0, none⟩), .pointer (some ⟨rb, 0, none⟩), .agg #[.int .u8 36, .int .u8 d, .int .u8 a, .int .u8 b, .int .u32 imm]] V (SdPost V db r pc rb lv R (putN (rpgs R) ((rg r a + imm) % 4294967296) ((putL (rg r b)).take 4) 4) 0)) := Lib.hid fun V g1 g2 => mem36_yes g1 g2 hn d a b imm i0 i1 hd16 ha hb hfm
  have hE := fetch_yes hf
  have hbW : Below w.heap.size w (w.alloc (.cells #[.int .u8 0, .int .u32 0, .int .i64 0] 67)) := (Below.refl _ _).alloc (Nat.le_refl _) _
  have hcp := (hc.below hbW).cellPc
  have hF := Rs.get_any (hr.same hbW) pc 8 4 hc.p0 hc.p1 (by omega) (by omega)
  rw [hE.1, hE.2] at hF
  have HF := Lib.hid hF
  have HB := Lib.hid hbW
  have HR := Lib.hid (⟨heap_alloc_new w _⟩ : RsBox (w.alloc (.cells #[.int .u8 0, .int .u32 0, .int .i64 0] 67)) w.heap.size)
  have HD : Hid (∀ W, Calls Tryz.prog 216 #[.string (strOfNums (Sp.getL (rpgs R) pc 8))] W fun e w' => e = .returned (.tuple #[Ins.val ⟨36, d, a, b, imm⟩, .int .i64 0]) ∧ Below W.heap.size W w') := Lib.hid fun W => by
    have h := Ins.decodeR (strOfNums (Sp.getL (rpgs R) pc 8)) (by rw [size_strOfNums, Sp.getL_length]; omega) W
    unfold Ins.decX Ins.decE at h
    rw [hd, hx] at h
    exact h
  have HDV : Hid (∀ w2, Below w.heap.size w w2 → RsBox w2 w.heap.size → DV w (w2.alloc (.cells (insCells ⟨36, d, a, b, imm⟩) 144)) w2.heap.size ⟨36, d, a, b, imm⟩ db rb lv R R r pc) := Lib.hid fun w2 hb2 hr2 => by
    have hb3 : Below w2.heap.size w2 (w2.alloc (.cells (insCells ⟨36, d, a, b, imm⟩) 144)) := (Below.refl _ _).alloc (Nat.le_refl _) _
    have hl := lt_of_block hr2.blk
    have hdl := hc.lt
    exact ⟨(hc.below hb2).below hb3, (hr.same hb2).same hb3, hn, heap_alloc_new w2 _, hr2.frame (hb3.block _ hl), (Mod.of_below hb2 _).same (Mod.of_below hb3 _), fun _ g => .inl g, by omega, fun k hk => by have := hr.lt hk; omega, by omega, by omega⟩
  have HPQ : Hid (∀ V bx R' k n y r' pc', DV w V bx ⟨36, d, a, b, imm⟩ db rb lv R R' r' pc' → (⟨k, n, y, r', pc', rpgs R'⟩ : Out) = (goes (putN (rpgs R) ((rg r a + imm) % 4294967296) ((putL (rg r b)).take 4) 4) r (next pc)) → SdStPost w db rb lv R (goes (putN (rpgs R) ((rg r a + imm) % 4294967296) ((putL (rg r b)).take 4) 4) r (next pc)) (.returned (stopV k n y)) (((V.setCell ⟨w.heap.size, 0, none⟩ (.int .u8 k)).setCell ⟨w.heap.size, 1, none⟩ (.int .u32 n)).setCell ⟨w.heap.size, 2, none⟩ (.int .i64 y))) := Lib.hid fun V bx R' k n y r' pc' h e => by rw [← e]; exact h.fin k n y
  generalize SdStPost w db rb lv R (goes (putN (rpgs R) ((rg r a + imm) % 4294967296) ((putL (rg r b)).take 4) 4) r (next pc)) = PQ at *
  generalize strOfNums (Sp.getL (rpgs R) pc 8) = S at *
  have hnx : IntKind.u32.wrap (pc + 8) = next pc := by rw [IntKind.wrap_u32']; rfl
  clear hn hbW hE hf hF hd hx
  unfold Ins.val at HD
  simp only at HD
  go_enter Tryz.func152, Tryz.ntmps152
  go_wp2_with fail
  refine HF.out.mono ?_
  rintro e w1 ⟨rfl, hb1⟩
  have HR1 := Lib.hid (HR.out.frame (hb1.block _ (by simp)))
  have HB1 := Lib.hid (below_th HB.out hb1)
  clear hb1
  go_wp2_with fail
  refine (HD.out _).mono ?_
  rintro e w2 ⟨rfl, hb2⟩
  have hs1 := HR1.out.blk
  have hR2 := HR1.out.frame (hb2.block _ (lt_of_block hs1))
  have hB2 := below_th HB1.out hb2
  have hdv := HDV.out w2 hB2 hR2
  have hq1 := (hc.below hB2).cellPc
  have hq2 : db < w2.heap.size := (hc.below hB2).lt
  unfold insCells at hdv
  simp only at hdv
  clear hb2 hs1 HDV HD HF HR HR1 HB HB1
  generalize hW3 : w2.alloc (.cells #[.int .u8 36, .int .u8 d, .int .u8 a, .int .u8 b, .int .u32 imm] 144) = w3 at *
  have H3 := Lib.hid hdv
  obtain ⟨y0, y1, y2, y3, y4⟩ := hdv.cells
  simp only at y0 y1 y2 y3 y4
  have z0 := hdv.cpu.cellPc
  have z1 := hdv.cpu.cellReg a ha
  have z2 := hdv.cpu.cellReg b hb
  have z3 := hdv.cpu.thaw 16
  clear hdv hR2 hB2 hq1 hq2
  go_wp2_with fail
  refine (HMem.out _ H3.out.cpu H3.out.rsp).mono ?_
  rintro e w5 ⟨R5, rfl, hc5, hR5, hs5⟩
  have hdv := H3.out.setR hc5 hs5
  have HR5 := Lib.hid hR5
  clear hR5
  obtain ⟨y0, y1, y2, y3, y4⟩ := hdv.cells
  simp only at y0 y1 y2 y3 y4
  have H5 := Lib.hid hdv
  clear hdv hc5 hs5 H3 z0 z1 z2 z3 HMem
  go_wp2_with fail
  refine (branches H5.out.cpu 36 d a b imm ha hb).mono ?_
  rintro e w6 ⟨rfl, hb6⟩
  have hbr : brV r ⟨36, d, a, b, imm⟩ = false := brV_low (by omega)
  rw [hbr]
  have hdv := H5.out.below hb6
  obtain ⟨y0, y1, y2, y3, y4⟩ := hdv.cells
  simp only at y0 y1 y2 y3 y4
  have z0 := hdv.cpu.cellPc
  have z3 := hdv.cpu.thaw 16
  obtain ⟨c0, c1, c2, f0, f1, f2⟩ := hdv.rs.cells
  have hne : w.heap.size ≠ db := by have := hdv.nb.2.2.1; omega
  have H6 := Lib.hid hdv
  clear hdv hb6 hbr
  go_wp2
  refine bodyPost_ret (v := stopV 0 0 0) (by simp [results, Tryz.results152, go_sem, stopV, *]) rfl ?_
  exact HPQ.out _ _ _ 0 0 0 _ _ (H6.out.setC (H6.out.cpu.setPc (next pc) (next_bd pc).1 (next_bd pc).2) (Mod.setCell (F := fun j => j = db) (Mod.refl _ _) _ (.inl rfl) _)) (by rw [HR5.out]; rfl)
set_option maxRecDepth 100000 in
set_option maxHeartbeats 2000000 in
theorem stepD_sw_no (hc : Cpu 124 w db r pc) (hr : Rsp w rb lv R) (hn : ¬ Rsp.foot rb lv R db) (hf : Sp.fitsB (rpgs R) pc 8 4 = true) (hd : Ins.decB (strOfNums (Sp.getL (rpgs R) pc 8)) = true)
    (d a b : Nat) (imm : Int) (hx : Ins.decI (strOfNums (Sp.getL (rpgs R) pc 8)) = ⟨36, d, a, b, imm⟩) (i0 : 0 ≤ imm) (i1 : imm ≤ 4294967295) (hd16 : d < 16) (ha : a < 16) (hb : b < 16) (hfm : Sp.fitsB (rpgs R) ((rg r a + imm) % 4294967296) 4 2 = false) :
    Calls Tryz.prog 152 #[.pointer (some ⟨db, 0, none⟩), .pointer (some ⟨rb, 0, none⟩)] w (SdStPost w db rb lv R (faults (rpgs R) r pc 50)) := by
  have hva := rg_bd hc.regs a
  have hvb := rg_bd hc.regs b
  have ha1 : (a : Int) < 16 := by omega
  have hb1 : (b : Int) < 16 := by omega
  have HMem : Hid (∀ V, Cpu 124 V db r pc → Rsp V rb lv R → Calls Tryz.prog 219 #[.pointer (some ⟨db, 0, none⟩), .pointer (some ⟨rb, 0, none⟩), .agg #[.int .u8 36, .int .u8 d, .int .u8 a, .int .u8 b, .int .u32 imm]] V (SdPost V db r pc rb lv R (rpgs R) 50)) := Lib.hid fun V g1 g2 => mem36_no g1 g2 hn d a b imm i0 i1 hd16 ha hb hfm
  have hE := fetch_yes hf
  have hbW : Below w.heap.size w (w.alloc (.cells #[.int .u8 0, .int .u32 0, .int .i64 0] 67)) := (Below.refl _ _).alloc (Nat.le_refl _) _
  have hcp := (hc.below hbW).cellPc
  have hF := Rs.get_any (hr.same hbW) pc 8 4 hc.p0 hc.p1 (by omega) (by omega)
  rw [hE.1, hE.2] at hF
  have HF := Lib.hid hF
  have HB := Lib.hid hbW
  have HR := Lib.hid (⟨heap_alloc_new w _⟩ : RsBox (w.alloc (.cells #[.int .u8 0, .int .u32 0, .int .i64 0] 67)) w.heap.size)
  have HD : Hid (∀ W, Calls Tryz.prog 216 #[.string (strOfNums (Sp.getL (rpgs R) pc 8))] W fun e w' => e = .returned (.tuple #[Ins.val ⟨36, d, a, b, imm⟩, .int .i64 0]) ∧ Below W.heap.size W w') := Lib.hid fun W => by
    have h := Ins.decodeR (strOfNums (Sp.getL (rpgs R) pc 8)) (by rw [size_strOfNums, Sp.getL_length]; omega) W
    unfold Ins.decX Ins.decE at h
    rw [hd, hx] at h
    exact h
  have HDV : Hid (∀ w2, Below w.heap.size w w2 → RsBox w2 w.heap.size → DV w (w2.alloc (.cells (insCells ⟨36, d, a, b, imm⟩) 144)) w2.heap.size ⟨36, d, a, b, imm⟩ db rb lv R R r pc) := Lib.hid fun w2 hb2 hr2 => by
    have hb3 : Below w2.heap.size w2 (w2.alloc (.cells (insCells ⟨36, d, a, b, imm⟩) 144)) := (Below.refl _ _).alloc (Nat.le_refl _) _
    have hl := lt_of_block hr2.blk
    have hdl := hc.lt
    exact ⟨(hc.below hb2).below hb3, (hr.same hb2).same hb3, hn, heap_alloc_new w2 _, hr2.frame (hb3.block _ hl), (Mod.of_below hb2 _).same (Mod.of_below hb3 _), fun _ g => .inl g, by omega, fun k hk => by have := hr.lt hk; omega, by omega, by omega⟩
  have HPQ : Hid (∀ V bx R' k n y r' pc', DV w V bx ⟨36, d, a, b, imm⟩ db rb lv R R' r' pc' → (⟨k, n, y, r', pc', rpgs R'⟩ : Out) = (faults (rpgs R) r pc 50) → SdStPost w db rb lv R (faults (rpgs R) r pc 50) (.returned (stopV k n y)) (((V.setCell ⟨w.heap.size, 0, none⟩ (.int .u8 k)).setCell ⟨w.heap.size, 1, none⟩ (.int .u32 n)).setCell ⟨w.heap.size, 2, none⟩ (.int .i64 y))) := Lib.hid fun V bx R' k n y r' pc' h e => by rw [← e]; exact h.fin k n y
  generalize SdStPost w db rb lv R (faults (rpgs R) r pc 50) = PQ at *
  generalize strOfNums (Sp.getL (rpgs R) pc 8) = S at *
  have hnx : IntKind.u32.wrap (pc + 8) = next pc := by rw [IntKind.wrap_u32']; rfl
  clear hn hbW hE hf hF hd hx
  unfold Ins.val at HD
  simp only at HD
  go_enter Tryz.func152, Tryz.ntmps152
  go_wp2_with fail
  refine HF.out.mono ?_
  rintro e w1 ⟨rfl, hb1⟩
  have HR1 := Lib.hid (HR.out.frame (hb1.block _ (by simp)))
  have HB1 := Lib.hid (below_th HB.out hb1)
  clear hb1
  go_wp2_with fail
  refine (HD.out _).mono ?_
  rintro e w2 ⟨rfl, hb2⟩
  have hs1 := HR1.out.blk
  have hR2 := HR1.out.frame (hb2.block _ (lt_of_block hs1))
  have hB2 := below_th HB1.out hb2
  have hdv := HDV.out w2 hB2 hR2
  have hq1 := (hc.below hB2).cellPc
  have hq2 : db < w2.heap.size := (hc.below hB2).lt
  unfold insCells at hdv
  simp only at hdv
  clear hb2 hs1 HDV HD HF HR HR1 HB HB1
  generalize hW3 : w2.alloc (.cells #[.int .u8 36, .int .u8 d, .int .u8 a, .int .u8 b, .int .u32 imm] 144) = w3 at *
  have H3 := Lib.hid hdv
  obtain ⟨y0, y1, y2, y3, y4⟩ := hdv.cells
  simp only at y0 y1 y2 y3 y4
  have z0 := hdv.cpu.cellPc
  have z1 := hdv.cpu.cellReg a ha
  have z2 := hdv.cpu.cellReg b hb
  have z3 := hdv.cpu.thaw 16
  clear hdv hR2 hB2 hq1 hq2
  go_wp2_with fail
  refine (HMem.out _ H3.out.cpu H3.out.rsp).mono ?_
  rintro e w5 ⟨R5, rfl, hc5, hR5, hs5⟩
  have hdv := H3.out.setR hc5 hs5
  have HR5 := Lib.hid hR5
  clear hR5
  obtain ⟨y0, y1, y2, y3, y4⟩ := hdv.cells
  simp only at y0 y1 y2 y3 y4
  have H5 := Lib.hid hdv
  have hne : w.heap.size ≠ db := by have := hdv.nb.2.2.1; omega
  clear hdv hc5 hs5 H3 z0 z1 z2 z3 HMem
  go_wp2_with fail
  refine (faultD 50 _).mono ?_
  rintro e w6 ⟨rfl, hb6⟩
  have hdv := H5.out.below hb6
  obtain ⟨c0, c1, c2, f0, f1, f2⟩ := hdv.rs.cells
  have H6 := Lib.hid hdv
  clear hdv hb6
  go_wp2
  refine bodyPost_ret (v := stopV 2 0 50) (by simp [results, Tryz.results152, go_sem, stopV, *]) rfl ?_
  exact HPQ.out _ _ _ 2 0 50 _ _ H6.out (by rw [HR5.out]; rfl)
end
end Cp
end Go.Proofs.YtkbhokmnbpnlbaaGreat
/- The walk of aediculeref06.Step, whole. -/
namespace Go.Proofs.YtkbhokmnbpnlbaaGreat
open Go.RowKit Word
set_option linter.unusedSimpArgs false
set_option linter.unusedVariables false
namespace Cp
section
variable {w : World} {db rb : Nat} {lv : Value} {R : List Rp} {r : List Int} {pc : Int}
theorem stepD (hc : Cpu 124 w db r pc) (hr : Rsp w rb lv R) (hn : ¬ Rsp.foot rb lv R db) :
    Calls Tryz.prog 152 #[.pointer (some ⟨db, 0, none⟩), .pointer (some ⟨rb, 0, none⟩)] w (SdStPost w db rb lv R (stp (rpgs R) r pc)) := by
  cases hf : Sp.fitsB (rpgs R) pc 8 4 with
  | false =>
    have e : stp (rpgs R) r pc = faults (rpgs R) r pc 50 := by unfold stp; rw [hf]; rfl
    rw [e]
    exact (stepD_fault hc hr hf).mono fun e w' ⟨g1, g2⟩ => ⟨R, g1, hc.below g2, rfl, hr.same g2, Mod.of_below g2 _, fun _ g => .inl g⟩
  | true =>
  cases hd : Ins.decB (strOfNums (Sp.getL (rpgs R) pc 8)) with
  | false =>
    have e : stp (rpgs R) r pc = faults (rpgs R) r pc 7 := by unfold stp; rw [if_pos hf, hd]; rfl
    rw [e]
    exact (stepD_form hc hr hf hd).mono fun e w' ⟨g1, g2⟩ => ⟨R, g1, hc.below g2, rfl, hr.same g2, Mod.of_below g2 _, fun _ g => .inl g⟩
  | true =>
  rw [stp_eq hf hd]
  have hm := Ins.decB_may hd
  have hok := Ins.decI_ok (Ins.decB_size hd)
  have hsm := Ins.may_small hm hok
  have hu := uses_cases (Ins.may_op hm)
  generalize hx : Ins.decI (strOfNums (Sp.getL (rpgs R) pc 8)) = x at *
  have o0 := hok.o0
  have o1 := hok.o1
  have i0 := hok.i0
  have i1 := hok.i1
  obtain ⟨op, d, a, b, imm⟩ := x
  obtain ⟨d0, d1, a0, a1, b0, b1⟩ := hsm
  simp only at o0 o1 i0 i1 d0 d1 a0 a1 b0 b1 hu
  obtain ⟨d, rfl⟩ := Int.eq_ofNat_of_zero_le d0
  obtain ⟨a, rfl⟩ := Int.eq_ofNat_of_zero_le a0
  obtain ⟨b, rfl⟩ := Int.eq_ofNat_of_zero_le b0
  have hd' : d < 16 := by omega
  have ha' : a < 16 := by omega
  have hb' : b < 16 := by omega
  rcases hu with hu | hu | rfl | rfl | rfl | rfl | rfl | rfl | rfl | rfl | rfl | rfl | rfl | rfl | rfl
  · have e : exe (rpgs R) r pc ⟨op, d, a, b, imm⟩ = goes (rpgs R) (putG r d (opv op (rg r a) (rg r b))) (next pc) := by unfold exe; rw [if_pos hu.2]
    rw [e]
    exact stepD_three hc hr hn hf hd op o0 hu.2 d a b imm hx i0 i1 hd' ha' hb'
  · have e : exe (rpgs R) r pc ⟨op, d, a, b, imm⟩ = goes (rpgs R) (putG r d (opv (op - 16) (rg r a) imm)) (next pc) := by unfold exe; rw [if_neg (by simp only; omega), if_pos hu.2]
    rw [e]
    by_cases h16 : op = 15
    · subst h16
      have := Ins.may_op hm
      exact absurd rfl this
    · exact stepD_two hc hr hn hf hd op (by omega) hu.2 d a b imm hx i0 i1 hd' ha' hb'
  · have e : exe (rpgs R) r pc ⟨32, d, a, b, imm⟩ = goes (rpgs R) (putG r d imm) (next pc) := rfl
    rw [e]
    exact stepD_li hc hr hn hf hd d a b imm hx i0 i1 hd' ha' hb'
  · have e : exe (rpgs R) r pc ⟨33, d, a, b, imm⟩ = loads (rpgs R) r pc ⟨33, d, a, b, imm⟩ 1 := rfl
    cases hq : Sp.fitsB (rpgs R) (addr r ⟨33, d, a, b, imm⟩) 1 1 with
    | true =>
      rw [exe_loads e hq]
      exact stepD_lb_yes hc hr hn hf hd d a b imm hx i0 i1 hd' ha' hb' hq
    | false =>
      rw [exe_loads' e hq]
      exact stepD_lb_no hc hr hn hf hd d a b imm hx i0 i1 hd' ha' hb' hq
  · have e : exe (rpgs R) r pc ⟨34, d, a, b, imm⟩ = loads (rpgs R) r pc ⟨34, d, a, b, imm⟩ 4 := rfl
    cases hq : Sp.fitsB (rpgs R) (addr r ⟨34, d, a, b, imm⟩) 4 1 with
    | true =>
      rw [exe_loads e hq]
      exact stepD_lw_yes hc hr hn hf hd d a b imm hx i0 i1 hd' ha' hb' hq
    | false =>
      rw [exe_loads' e hq]
      exact stepD_lw_no hc hr hn hf hd d a b imm hx i0 i1 hd' ha' hb' hq
  · have e : exe (rpgs R) r pc ⟨35, d, a, b, imm⟩ = stores (rpgs R) r pc ⟨35, d, a, b, imm⟩ 1 := rfl
    cases hq : Sp.fitsB (rpgs R) (addr r ⟨35, d, a, b, imm⟩) 1 2 with
    | true =>
      rw [exe_stores e hq]
      exact stepD_sb_yes hc hr hn hf hd d a b imm hx i0 i1 hd' ha' hb' hq
    | false =>
      rw [exe_stores' e hq]
      exact stepD_sb_no hc hr hn hf hd d a b imm hx i0 i1 hd' ha' hb' hq
  · have e : exe (rpgs R) r pc ⟨36, d, a, b, imm⟩ = stores (rpgs R) r pc ⟨36, d, a, b, imm⟩ 4 := rfl
    cases hq : Sp.fitsB (rpgs R) (addr r ⟨36, d, a, b, imm⟩) 4 2 with
    | true =>
      rw [exe_stores e hq]
      exact stepD_sw_yes hc hr hn hf hd d a b imm hx i0 i1 hd' ha' hb' hq
    | false =>
      rw [exe_stores' e hq]
      exact stepD_sw_no hc hr hn hf hd d a b imm hx i0 i1 hd' ha' hb' hq
  · have e : exe (rpgs R) r pc ⟨40, d, a, b, imm⟩ = goes (rpgs R) r imm := rfl
    rw [e]
    exact stepD_jump hc hr hn hf hd d a b imm hx i0 i1 hd' ha' hb'
  · have e : exe (rpgs R) r pc ⟨41, d, a, b, imm⟩ = goes (rpgs R) (putG r d (next pc)) imm := rfl
    rw [e]
    exact stepD_jal hc hr hn hf hd d a b imm hx i0 i1 hd' ha' hb'
  · have e : exe (rpgs R) r pc ⟨42, d, a, b, imm⟩ = goes (rpgs R) r (rg r a) := rfl
    rw [e]
    exact stepD_jr hc hr hn hf hd d a b imm hx i0 i1 hd' ha' hb'
  · have e : exe (rpgs R) r pc ⟨43, d, a, b, imm⟩ = goes (rpgs R) r (br (rg r a == rg r b) imm (next pc)) := rfl
    rw [e]
    cases hq : (rg r a == rg r b) with
    | true => exact stepD_beq_true hc hr hn hf hd d a b imm hx i0 i1 hd' ha' hb' hq
    | false => exact stepD_beq_false hc hr hn hf hd d a b imm hx i0 i1 hd' ha' hb' hq
  · have e : exe (rpgs R) r pc ⟨44, d, a, b, imm⟩ = goes (rpgs R) r (br (rg r a != rg r b) imm (next pc)) := rfl
    rw [e]
    cases hq : (rg r a != rg r b) with
    | true => exact stepD_bne_true hc hr hn hf hd d a b imm hx i0 i1 hd' ha' hb' hq
    | false => exact stepD_bne_false hc hr hn hf hd d a b imm hx i0 i1 hd' ha' hb' hq
  · have e : exe (rpgs R) r pc ⟨45, d, a, b, imm⟩ = goes (rpgs R) r (br (decide (rg r a < rg r b)) imm (next pc)) := rfl
    rw [e]
    cases hq : (decide (rg r a < rg r b)) with
    | true => exact stepD_bltu_true hc hr hn hf hd d a b imm hx i0 i1 hd' ha' hb' hq
    | false => exact stepD_bltu_false hc hr hn hf hd d a b imm hx i0 i1 hd' ha' hb' hq
  · have e : exe (rpgs R) r pc ⟨46, d, a, b, imm⟩ = goes (rpgs R) r (br (decide (rg r b ≤ rg r a)) imm (next pc)) := rfl
    rw [e]
    cases hq : (decide (rg r b ≤ rg r a)) with
    | true => exact stepD_bgeu_true hc hr hn hf hd d a b imm hx i0 i1 hd' ha' hb' hq
    | false => exact stepD_bgeu_false hc hr hn hf hd d a b imm hx i0 i1 hd' ha' hb' hq
  · have e : exe (rpgs R) r pc ⟨50, d, a, b, imm⟩ = ⟨1, imm, 0, r, next pc, rpgs R⟩ := rfl
    rw [e]
    exact stepD_sys hc hr hn hf hd d a b imm hx i0 i1 hd' ha' hb'
end
end Cp
/-- A step of the document's cpu. -/
theorem Duo.stepD {w0 w w' : World} {cb sb mb : Nat} {A : List Pg} {rc : List Int} {pcc : Int} {db rb : Nat} {lv : Value} {R R' : List Rp} {rd rd' : List Int} {pcd pcd' : Int}
    (h : Duo w0 w cb sb mb A rc pcc db rb lv R rd pcd) (hd : Cpu 124 w' db rd' pcd') (hr : Rsp w' rb lv R') (hm : Mod (fun k => k = db ∨ Rsp.foot rb lv R k) w w') (hf : ∀ k, Rsp.foot rb lv R' k → Rsp.foot rb lv R k ∨ w.heap.size ≤ k) : Duo w0 w' cb sb mb A rc pcc db rb lv R' rd' pcd' :=
  { h with
    cp := h.cp.keep hm (by rintro (g | g); exact h.cd g; exact h.cr g)
    dp := hd
    pair := ⟨h.pair.sp.keep hm (by rintro k hk (g | g); exact h.da (g ▸ hk); exact h.pair.apart k hk g), hr, fun k hk g => by
      rcases hf k g with q | q
      · exact h.pair.apart k hk q
      · have := h.pair.sp.lt hk; omega⟩
    bel := hm.below h.bel h.bel.size (by rintro i _ (g | g); exact g ▸ h.d0; exact h.r0 i g)
    r0 := fun k hk => (hf k hk).elim (h.r0 k) fun g => Nat.le_trans h.bel.size g
    cr := fun g => (hf _ g).elim h.cr fun q => by have := h.cp.lt; omega
    dr := fun g => (hf _ g).elim h.dr fun q => by have := h.dp.lt; omega }
end Go.Proofs.YtkbhokmnbpnlbaaGreat
