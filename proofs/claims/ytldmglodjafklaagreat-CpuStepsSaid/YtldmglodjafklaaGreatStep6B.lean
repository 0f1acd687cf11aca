/- The walk of aediculeref06.Step where an instruction is done. -/
import Derived.Test.YtldmglodjafklaaGreatStep6
namespace Go.Proofs.YtldmglodjafklaaGreat
open Go.RowKit Word
set_option linter.unusedVariables false
set_option linter.unusedSimpArgs false
namespace Cp
/-- The world within a step: the cpu, the space, the box of the instruction, the box of the answer. -/
structure DV (w V : World) (bx : Nat) (x : Ins) (db rb : Nat) (lv : Value) (R0 R : List Rp) (r : List Int) (pc : Int) : Prop where
  cpu : Cpu 107 V db r pc
  rsp : Rsp V rb lv R
  nd : ¬ Rsp.foot rb lv R db
  box : V.heap[bx]? = some (.cells (insCells x) 91 (0, 0))
  rs : RsBox V w.heap.size
  mod : Mod (fun k => k = db ∨ Rsp.foot rb lv R0 k) w V
  foot : ∀ k, Rsp.foot rb lv R k → Rsp.foot rb lv R0 k ∨ w.heap.size ≤ k
  nb : bx ≠ db ∧ (∀ k, Rsp.foot rb lv R k → k ≠ bx ∧ k ≠ w.heap.size) ∧ db < w.heap.size ∧ w.heap.size < bx
namespace DV
variable {w V V' : World} {bx : Nat} {x : Ins} {db rb : Nat} {lv : Value} {R0 R : List Rp} {r r' : List Int} {pc pc' : Int}
theorem below (h : DV w V bx x db rb lv R0 R r pc) (hb : Below V.heap.size V V') : DV w V' bx x db rb lv R0 R r pc :=
  ⟨h.cpu.below hb, h.rsp.same hb, h.nd, (hb.block _ (lt_of_block h.box)).trans h.box, h.rs.frame (hb.block _ (lt_of_block h.rs.blk)), h.mod.same (Mod.of_below hb _), h.foot, h.nb⟩
theorem setC (h : DV w V bx x db rb lv R0 R r pc) (hc : Cpu 107 V' db r' pc') (hm : Mod (fun k => k = db) V V') : DV w V' bx x db rb lv R0 R r' pc' :=
  ⟨hc, h.rsp.keep hm (fun k hk g => h.nd (g ▸ hk)), h.nd, (hm.block _ (lt_of_block h.box) h.nb.1).trans h.box, h.rs.frame (hm.block _ (lt_of_block h.rs.blk) (fun g => by have := h.nb.2.2.1; omega)), h.mod.same (hm.mono fun k _ hk => .inl hk), h.foot, h.nb⟩
theorem cells (h : DV w V bx x db rb lv R0 R r pc) : V.cell? ⟨bx, 0, none⟩ = some (.int .u8 x.op) ∧ V.cell? ⟨bx, 1, none⟩ = some (.int .u8 x.d) ∧ V.cell? ⟨bx, 2, none⟩ = some (.int .u8 x.a) ∧ V.cell? ⟨bx, 3, none⟩ = some (.int .u8 x.b) ∧ V.cell? ⟨bx, 4, none⟩ = some (.int .u32 x.imm) := box_cells h.box
end DV
/-- What is left: the answer is laid, the step ends. -/
theorem DV.fin {w V : World} {bx : Nat} {x : Ins} {db rb : Nat} {lv : Value} {R0 R : List Rp} {r : List Int} {pc : Int} (h : DV w V bx x db rb lv R0 R r pc) (k n y : Int) :
    SdStPost w db rb lv R0 ⟨k, n, y, r, pc, rpgs R⟩ (.returned (stopV k n y)) (((V.setCell ⟨w.heap.size, 0, none⟩ (.int .u8 k)).setCell ⟨w.heap.size, 1, none⟩ (.int .u32 n)).setCell ⟨w.heap.size, 2, none⟩ (.int .i64 y)) := by
  have hn := h.nb.2.2.1
  have hne : ∀ j, j ≠ w.heap.size → (((V.setCell ⟨w.heap.size, 0, none⟩ (.int .u8 k)).setCell ⟨w.heap.size, 1, none⟩ (.int .u32 n)).setCell ⟨w.heap.size, 2, none⟩ (.int .i64 y)).heap[j]? = V.heap[j]? := fun j hj => by
    rw [Below.heap_setCell _ _ _ _ hj, Below.heap_setCell _ _ _ _ hj, Below.heap_setCell _ _ _ _ hj]
  exact ⟨R, rfl, h.cpu.frame (hne _ (by omega)), rfl, h.rsp.frame fun j hj => hne j (h.nb.2.1 j hj).2, set3_mod h.mod (Nat.le_refl _) _ _ _, h.foot⟩
theorem brV_low {r : List Int} {op d a b imm : Int} (h : op < 40) : brV r ⟨op, d, a, b, imm⟩ = false := by
  unfold brV
  simp only
  rw [if_neg (by omega), if_neg (by omega), if_neg (by omega), if_neg (by omega), if_neg (by omega)]
section
variable {w : World} {db rb : Nat} {lv : Value} {R : List Rp} {r : List Int} {pc : Int}
set_option maxRecDepth 100000 in
set_option maxHeartbeats 2000000 in
theorem stepD_three (hc : Cpu 107 w db r pc) (hr : Rsp w rb lv R) (hn : ¬ Rsp.foot rb lv R db) (hf : Sp.fitsB (rpgs R) pc 8 4 = true) (hd : Ins.decB (strOfNums (Sp.getL (rpgs R) pc 8)) = true)
    (op : Int) (o0 : 0 ≤ op) (o1 : op ≤ 14) (d a b : Nat) (imm : Int) (hx : Ins.decI (strOfNums (Sp.getL (rpgs R) pc 8)) = ⟨op, d, a, b, imm⟩) (i0 : 0 ≤ imm) (i1 : imm ≤ 4294967295) (hd16 : d < 16) (ha : a < 16) (hb : b < 16) :
    Calls Tryz.prog 29 #[.pointer (some ⟨db, 0, none⟩), .pointer (some ⟨rb, 0, none⟩)] w (SdStPost w db rb lv R (goes (rpgs R) (putG r d (opv op (rg r a) (rg r b))) (next pc))) := by
  have hva := rg_bd hc.regs a
  have hvb := rg_bd hc.regs b
  have ha1 : (a : Int) < 16 := by omega
  have hb1 : (b : Int) < 16 := by omega
  have hvo := opv_bd op _ _ hva.1 hva.2 hvb.1 hvb.2
  have ho14 := decide_eq_true o1
  have f41 : (op == 41) = false := by simp; omega
  have hE := fetch_yes hf
  have hbW : Below w.heap.size w (w.alloc (.cells #[.int .u8 0, .int .u32 0, .int .i64 0] 29)) := (Below.refl _ _).alloc (Nat.le_refl _) _
  have hcp := (hc.below hbW).cellPc
  have hF := Rs.get_any (hr.same hbW) pc 8 4 hc.p0 hc.p1 (by omega) (by omega)
  rw [hE.1, hE.2] at hF
  have HF := Lib.hid hF
  have HB := Lib.hid hbW
  have HR := Lib.hid (⟨heap_alloc_new w _⟩ : RsBox (w.alloc (.cells #[.int .u8 0, .int .u32 0, .int .i64 0] 29)) w.heap.size)
  have HD : Hid (∀ W, Calls Tryz.prog 68 #[.string (strOfNums (Sp.getL (rpgs R) pc 8))] W fun e w' => e = .returned (.tuple #[Ins.val ⟨op, d, a, b, imm⟩, .int .i64 0]) ∧ Below W.heap.size W w') := Lib.hid fun W => by
    have h := Ins.decodeR (strOfNums (Sp.getL (rpgs R) pc 8)) (by rw [size_strOfNums, Sp.getL_length]; omega) W
    unfold Ins.decX Ins.decE at h
    rw [hd, hx] at h
    exact h
  have HDV : Hid (∀ w2, Below w.heap.size w w2 → RsBox w2 w.heap.size → DV w (w2.alloc (.cells (insCells ⟨op, d, a, b, imm⟩) 91)) w2.heap.size ⟨op, d, a, b, imm⟩ db rb lv R R r pc) := Lib.hid fun w2 hb2 hr2 => by
    have hb3 : Below w2.heap.size w2 (w2.alloc (.cells (insCells ⟨op, d, a, b, imm⟩) 91)) := (Below.refl _ _).alloc (Nat.le_refl _) _
    have hl := lt_of_block hr2.blk
    have hdl := hc.lt
    exact ⟨(hc.below hb2).below hb3, (hr.same hb2).same hb3, hn, heap_alloc_new w2 _, hr2.frame (hb3.block _ hl), (Mod.of_below hb2 _).same (Mod.of_below hb3 _), fun _ g => .inl g, by omega, fun k hk => by have := hr.lt hk; omega, by omega, by omega⟩
  have HPQ : Hid (∀ V bx R' k n y r' pc', DV w V bx ⟨op, d, a, b, imm⟩ db rb lv R R' r' pc' → (⟨k, n, y, r', pc', rpgs R'⟩ : Out) = (goes (rpgs R) (putG r d (opv op (rg r a) (rg r b))) (next pc)) → SdStPost w db rb lv R (goes (rpgs R) (putG r d (opv op (rg r a) (rg r b))) (next pc)) (.returned (stopV k n y)) (((V.setCell ⟨w.heap.size, 0, none⟩ (.int .u8 k)).setCell ⟨w.heap.size, 1, none⟩ (.int .u32 n)).setCell ⟨w.heap.size, 2, none⟩ (.int .i64 y))) := Lib.hid fun V bx R' k n y r' pc' h e => by rw [← e]; exact h.fin k n y
  generalize SdStPost w db rb lv R (goes (rpgs R) (putG r d (opv op (rg r a) (rg r b))) (next pc)) = PQ at *
  generalize strOfNums (Sp.getL (rpgs R) pc 8) = S at *
  have hnx : IntKind.u32.wrap (pc + 8) = next pc := by rw [IntKind.wrap_u32']; rfl
  clear hn hbW hE hf hF hd hx
  unfold Ins.val at HD
  simp only at HD
  go_enter Tryz.func29, Tryz.ntmps29
  go_wp2_with fail
  refine HF.out.mono ?_
  rintro e w1 ⟨rfl, hb1⟩
  have HR1 := Lib.hid (HR.out.frame (hb1.block _ (by simp)))
  have HB1 := Lib.hid (below_th HB.out hb1)
  clear hb1
  go_wp2_with fail
  refine (HD.out _).mono ?_
  rintro e w2 ⟨rfl, hb2⟩
  have hs1 := HR1.out.blk
  have hR2 := HR1.out.frame (hb2.block _ (lt_of_block hs1))
  have hB2 := below_th HB1.out hb2
  have hdv := HDV.out w2 hB2 hR2
  have hq1 := (hc.below hB2).cellPc
  have hq2 : db < w2.heap.size := (hc.below hB2).lt
  unfold insCells at hdv
  simp only at hdv
  clear hb2 hs1 HDV HD HF HR HR1 HB HB1
  generalize hW3 : w2.alloc (.cells #[.int .u8 op, .int .u8 d, .int .u8 a, .int .u8 b, .int .u32 imm] 91) = w3 at *
  have H3 := Lib.hid hdv
  obtain ⟨y0, y1, y2, y3, y4⟩ := hdv.cells
  simp only at y0 y1 y2 y3 y4
  have z0 := hdv.cpu.cellPc
  have z1 := hdv.cpu.cellReg a ha
  have z2 := hdv.cpu.cellReg b hb
  have z3 := hdv.cpu.thaw 16
  clear hdv hR2 hB2 hq1 hq2
  go_wp2_with fail
  refine wp_region_still_tail 20 (by kernel_rfl) (by kernel_rfl) ?_
  simp only [List.take_succ_cons, List.take_zero, List.drop_succ_cons, List.drop_zero]
  repeat still_step
  still_call ((opD op _ _ o0 (by omega) hva.1 hva.2 hvb.1 hvb.2 _).mono fun e w' ⟨g1, g2⟩ => ⟨g1, g2.symm⟩)
  repeat still_step
  refine wpStill_nil ?_
  change wpList _ _ _ _ _ w3.drew
  have H4 := Lib.hid (H3.out.below (Below.refl _ _).drew)
  clear H3 y0 y1 y2 y3 y4 z0 z1 z2 z3
  generalize w3.drew = w4 at *
  go_wp2_with fail
  refine (putD H4.out.cpu d hd16 _ hvo.1 hvo.2).mono ?_
  rintro e w5 ⟨rfl, hc5, hm5⟩
  have hdv := H4.out.setC hc5 hm5
  obtain ⟨y0, y1, y2, y3, y4⟩ := hdv.cells
  simp only at y0 y1 y2 y3 y4
  have H5 := Lib.hid hdv
  clear hdv hc5 hm5 H4
  go_wp2_with fail
  refine (branches H5.out.cpu op d a b imm ha hb).mono ?_
  rintro e w6 ⟨rfl, hb6⟩
  have hbr : brV (putG r d (opv op (rg r a) (rg r b))) ⟨op, d, a, b, imm⟩ = false := brV_low (by omega)
  rw [hbr]
  have hdv := H5.out.below hb6
  obtain ⟨y0, y1, y2, y3, y4⟩ := hdv.cells
  simp only at y0 y1 y2 y3 y4
  have z0 := hdv.cpu.cellPc
  have z3 := hdv.cpu.thaw 16
  obtain ⟨c0, c1, c2, f0, f1, f2⟩ := hdv.rs.cells
  have hne : w.heap.size ≠ db := by have := hdv.nb.2.2.1; omega
  have H6 := Lib.hid hdv
  clear hdv hb6 hbr
  go_wp2
  refine bodyPost_ret (v := stopV 0 0 0) (by simp [results, Tryz.results29, go_sem, stopV, *]) rfl ?_
  exact HPQ.out _ _ _ 0 0 0 _ _ (H6.out.setC (H6.out.cpu.setPc (next pc) (next_bd pc).1 (next_bd pc).2) (Mod.setCell (F := fun j => j = db) (Mod.refl _ _) _ (.inl rfl) _)) rfl
set_option maxRecDepth 100000 in
set_option maxHeartbeats 2000000 in
theorem stepD_two (hc : Cpu 107 w db r pc) (hr : Rsp w rb lv R) (hn : ¬ Rsp.foot rb lv R db) (hf : Sp.fitsB (rpgs R) pc 8 4 = true) (hd : Ins.decB (strOfNums (Sp.getL (rpgs R) pc 8)) = true)
    (op : Int) (o0 : 16 ≤ op) (o1 : op ≤ 30) (d a b : Nat) (imm : Int) (hx : Ins.decI (strOfNums (Sp.getL (rpgs R) pc 8)) = ⟨op, d, a, b, imm⟩) (i0 : 0 ≤ imm) (i1 : imm ≤ 4294967295) (hd16 : d < 16) (ha : a < 16) (hb : b < 16) :
    Calls Tryz.prog 29 #[.pointer (some ⟨db, 0, none⟩), .pointer (some ⟨rb, 0, none⟩)] w (SdStPost w db rb lv R (goes (rpgs R) (putG r d (opv (op - 16) (rg r a) imm)) (next pc))) := by
  have hva := rg_bd hc.regs a
  have hvb := rg_bd hc.regs b
  have ha1 : (a : Int) < 16 := by omega
  have hb1 : (b : Int) < 16 := by omega
  have hvo := opv_bd (op - 16) (rg r a) imm hva.1 hva.2 i0 i1
  have ho14 : decide (op ≤ 14) = false := decide_eq_false (by omega)
  have ho30 := decide_eq_true o1
  have hopw : IntKind.u8.wrap (op - 16) = op - 16 := by rw [IntKind.wrap_u8]; omega
  have hopm : (op - 16) % 256 = op - 16 := by omega
  have f41 : (op == 41) = false := by simp; omega
  have hE := fetch_yes hf
  have hbW : Below w.heap.size w (w.alloc (.cells #[.int .u8 0, .int .u32 0, .int .i64 0] 29)) := (Below.refl _ _).alloc (Nat.le_refl _) _
  have hcp := (hc.below hbW).cellPc
  have hF := Rs.get_any (hr.same hbW) pc 8 4 hc.p0 hc.p1 (by omega) (by omega)
  rw [hE.1, hE.2] at hF
  have HF := Lib.hid hF
  have HB := Lib.hid hbW
  have HR := Lib.hid (⟨heap_alloc_new w _⟩ : RsBox (w.alloc (.cells #[.int .u8 0, .int .u32 0, .int .i64 0] 29)) w.heap.size)
  have HD : Hid (∀ W, Calls Tryz.prog 68 #[.string (strOfNums (Sp.getL (rpgs R) pc 8))] W fun e w' => e = .returned (.tuple #[Ins.val ⟨op, d, a, b, imm⟩, .int .i64 0]) ∧ Below W.heap.size W w') := Lib.hid fun W => by
    have h := Ins.decodeR (strOfNums (Sp.getL (rpgs R) pc 8)) (by rw [size_strOfNums, Sp.getL_length]; omega) W
    unfold Ins.decX Ins.decE at h
    rw [hd, hx] at h
    exact h
  have HDV : Hid (∀ w2, Below w.heap.size w w2 → RsBox w2 w.heap.size → DV w (w2.alloc (.cells (insCells ⟨op, d, a, b, imm⟩) 91)) w2.heap.size ⟨op, d, a, b, imm⟩ db rb lv R R r pc) := Lib.hid fun w2 hb2 hr2 => by
    have hb3 : Below w2.heap.size w2 (w2.alloc (.cells (insCells ⟨op, d, a, b, imm⟩) 91)) := (Below.refl _ _).alloc (Nat.le_refl _) _
    have hl := lt_of_block hr2.blk
    have hdl := hc.lt
    exact ⟨(hc.below hb2).below hb3, (hr.same hb2).same hb3, hn, heap_alloc_new w2 _, hr2.frame (hb3.block _ hl), (Mod.of_below hb2 _).same (Mod.of_below hb3 _), fun _ g => .inl g, by omega, fun k hk => by have := hr.lt hk; omega, by omega, by omega⟩
  have HPQ : Hid (∀ V bx R' k n y r' pc', DV w V bx ⟨op, d, a, b, imm⟩ db rb lv R R' r' pc' → (⟨k, n, y, r', pc', rpgs R'⟩ : Out) = (goes (rpgs R) (putG r d (opv (op - 16) (rg r a) imm)) (next pc)) → SdStPost w db rb lv R (goes (rpgs R) (putG r d (opv (op - 16) (rg r a) imm)) (next pc)) (.returned (stopV k n y)) (((V.setCell ⟨w.heap.size, 0, none⟩ (.int .u8 k)).setCell ⟨w.heap.size, 1, none⟩ (.int .u32 n)).setCell ⟨w.heap.size, 2, none⟩ (.int .i64 y))) := Lib.hid fun V bx R' k n y r' pc' h e => by rw [← e]; exact h.fin k n y
  generalize SdStPost w db rb lv R (goes (rpgs R) (putG r d (opv (op - 16) (rg r a) imm)) (next pc)) = PQ at *
  generalize strOfNums (Sp.getL (rpgs R) pc 8) = S at *
  have hnx : IntKind.u32.wrap (pc + 8) = next pc := by rw [IntKind.wrap_u32']; rfl
  clear hn hbW hE hf hF hd hx
  unfold Ins.val at HD
  simp only at HD
  go_enter Tryz.func29, Tryz.ntmps29
  go_wp2_with fail
  refine HF.out.mono ?_
  rintro e w1 ⟨rfl, hb1⟩
  have HR1 := Lib.hid (HR.out.frame (hb1.block _ (by simp)))
  have HB1 := Lib.hid (below_th HB.out hb1)
  clear hb1
  go_wp2_with fail
  refine (HD.out _).mono ?_
  rintro e w2 ⟨rfl, hb2⟩
  have hs1 := HR1.out.blk
  have hR2 := HR1.out.frame (hb2.block _ (lt_of_block hs1))
  have hB2 := below_th HB1.out hb2
  have hdv := HDV.out w2 hB2 hR2
  have hq1 := (hc.below hB2).cellPc
  have hq2 : db < w2.heap.size := (hc.below hB2).lt
  unfold insCells at hdv
  simp only at hdv
  clear hb2 hs1 HDV HD HF HR HR1 HB HB1
  generalize hW3 : w2.alloc (.cells #[.int .u8 op, .int .u8 d, .int .u8 a, .int .u8 b, .int .u32 imm] 91) = w3 at *
  have H3 := Lib.hid hdv
  obtain ⟨y0, y1, y2, y3, y4⟩ := hdv.cells
  simp only at y0 y1 y2 y3 y4
  have z0 := hdv.cpu.cellPc
  have z1 := hdv.cpu.cellReg a ha
  have z2 := hdv.cpu.cellReg b hb
  have z3 := hdv.cpu.thaw 16
  clear hdv hR2 hB2 hq1 hq2
  go_wp2_with fail
  refine wp_region_still_tail 16 (by kernel_rfl) (by kernel_rfl) ?_
  simp only [List.take_succ_cons, List.take_zero, List.drop_succ_cons, List.drop_zero]
  repeat still_step
  still_call ((opD (op - 16) _ _ (by omega) (by omega) hva.1 hva.2 i0 i1 _).mono fun e w' ⟨g1, g2⟩ => ⟨g1, g2.symm⟩)
  repeat still_step
  refine wpStill_nil ?_
  change wpList _ _ _ _ _ w3.drew
  have H4 := Lib.hid (H3.out.below (Below.refl _ _).drew)
  clear H3 y0 y1 y2 y3 y4 z0 z1 z2 z3
  generalize w3.drew = w4 at *
  go_wp2_with fail
  refine (putD H4.out.cpu d hd16 _ hvo.1 hvo.2).mono ?_
  rintro e w5 ⟨rfl, hc5, hm5⟩
  have hdv := H4.out.setC hc5 hm5
  obtain ⟨y0, y1, y2, y3, y4⟩ := hdv.cells
  simp only at y0 y1 y2 y3 y4
  have H5 := Lib.hid hdv
  clear hdv hc5 hm5 H4
  go_wp2_with fail
  refine (branches H5.out.cpu op d a b imm ha hb).mono ?_
  rintro e w6 ⟨rfl, hb6⟩
  have hbr : brV (putG r d (opv (op - 16) (rg r a) imm)) ⟨op, d, a, b, imm⟩ = false := brV_low (by omega)
  rw [hbr]
  have hdv := H5.out.below hb6
  obtain ⟨y0, y1, y2, y3, y4⟩ := hdv.cells
  simp only at y0 y1 y2 y3 y4
  have z0 := hdv.cpu.cellPc
  have z3 := hdv.cpu.thaw 16
  obtain ⟨c0, c1, c2, f0, f1, f2⟩ := hdv.rs.cells
  have hne : w.heap.size ≠ db := by have := hdv.nb.2.2.1; omega
  have H6 := Lib.hid hdv
  clear hdv hb6 hbr
  go_wp2
  refine bodyPost_ret (v := stopV 0 0 0) (by simp [results, Tryz.results29, go_sem, stopV, *]) rfl ?_
  exact HPQ.out _ _ _ 0 0 0 _ _ (H6.out.setC (H6.out.cpu.setPc (next pc) (next_bd pc).1 (next_bd pc).2) (Mod.setCell (F := fun j => j = db) (Mod.refl _ _) _ (.inl rfl) _)) rfl
set_option maxRecDepth 100000 in
set_option maxHeartbeats 2000000 in
theorem stepD_li (hc : Cpu 107 w db r pc) (hr : Rsp w rb lv R) (hn : ¬ Rsp.foot rb lv R db) (hf : Sp.fitsB (rpgs R) pc 8 4 = true) (hd : Ins.decB (strOfNums (Sp.getL (rpgs R) pc 8)) = true)
    (d a b : Nat) (imm : Int) (hx : Ins.decI (strOfNums (Sp.getL (rpgs R) pc 8)) = ⟨32, d, a, b, imm⟩) (i0 : 0 ≤ imm) (i1 : imm ≤ 4294967295) (hd16 : d < 16) (ha : a < 16) (hb : b < 16) :
    Calls Tryz.prog 29 #[.pointer (some ⟨db, 0, none⟩), .pointer (some ⟨rb, 0, none⟩)] w (SdStPost w db rb lv R (goes (rpgs R) (putG r d imm) (next pc))) := by
  have hva := rg_bd hc.regs a
  have hvb := rg_bd hc.regs b
  have ha1 : (a : Int) < 16 := by omega
  have hb1 : (b : Int) < 16 := by omega
  have hvi : 0 ≤ imm ∧ imm ≤ 4294967295 := ⟨i0, i1⟩
  have hE := fetch_yes hf
  have hbW : Below w.heap.size w (w.alloc (.cells #[.int .u8 0, .int .u32 0, .int .i64 0] 29)) := (Below.refl _ _).alloc (Nat.le_refl _) _
  have hcp := (hc.below hbW).cellPc
  have hF := Rs.get_any (hr.same hbW) pc 8 4 hc.p0 hc.p1 (by omega) (by omega)
  rw [hE.1, hE.2] at hF
  have HF := Lib.hid hF
  have HB := Lib.hid hbW
  have HR := Lib.hid (⟨heap_alloc_new w _⟩ : RsBox (w.alloc (.cells #[.int .u8 0, .int .u32 0, .int .i64 0] 29)) w.heap.size)
  have HD : Hid (∀ W, Calls Tryz.prog 68 #[.string (strOfNums (Sp.getL (rpgs R) pc 8))] W fun e w' => e = .returned (.tuple #[Ins.val ⟨32, d, a, b, imm⟩, .int .i64 0]) ∧ Below W.heap.size W w') := Lib.hid fun W => by
    have h := Ins.decodeR (strOfNums (Sp.getL (rpgs R) pc 8)) (by rw [size_strOfNums, Sp.getL_length]; omega) W
    unfold Ins.decX Ins.decE at h
    rw [hd, hx] at h
    exact h
  have HDV : Hid (∀ w2, Below w.heap.size w w2 → RsBox w2 w.heap.size → DV w (w2.alloc (.cells (insCells ⟨32, d, a, b, imm⟩) 91)) w2.heap.size ⟨32, d, a, b, imm⟩ db rb lv R R r pc) := Lib.hid fun w2 hb2 hr2 => by
    have hb3 : Below w2.heap.size w2 (w2.alloc (.cells (insCells ⟨32, d, a, b, imm⟩) 91)) := (Below.refl _ _).alloc (Nat.le_refl _) _
    have hl := lt_of_block hr2.blk
    have hdl := hc.lt
    exact ⟨(hc.below hb2).below hb3, (hr.same hb2).same hb3, hn, heap_alloc_new w2 _, hr2.frame (hb3.block _ hl), (Mod.of_below hb2 _).same (Mod.of_below hb3 _), fun _ g => .inl g, by omega, fun k hk => by have := hr.lt hk; omega, by omega, by omega⟩
  have HPQ : Hid (∀ V bx R' k n y r' pc', DV w V bx ⟨32, d, a, b, imm⟩ db rb lv R R' r' pc' → (⟨k, n, y, r', pc', rpgs R'⟩ : Out) = (goes (rpgs R) (putG r d imm) (next pc)) → SdStPost w db rb lv R (goes (rpgs R) (putG r d imm) (next pc)) (.returned (stopV k n y)) (((V.setCell ⟨w.heap.size, 0, none⟩ (.int .u8 k)).setCell ⟨w.heap.size, 1, none⟩ (.int .u32 n)).setCell ⟨w.heap.size, 2, none⟩ (.int .i64 y))) := Lib.hid fun V bx R' k n y r' pc' h e => by rw [← e]; exact h.fin k n y
  generalize SdStPost w db rb lv R (goes (rpgs R) (putG r d imm) (next pc)) = PQ at *
  generalize strOfNums (Sp.getL (rpgs R) pc 8) = S at *
  have hnx : IntKind.u32.wrap (pc + 8) = next pc := by rw [IntKind.wrap_u32']; rfl
  clear hn hbW hE hf hF hd hx
  unfold Ins.val at HD
  simp only at HD
  go_enter Tryz.func29, Tryz.ntmps29
  go_wp2_with fail
  refine HF.out.mono ?_
  rintro e w1 ⟨rfl, hb1⟩
  have HR1 := Lib.hid (HR.out.frame (hb1.block _ (by simp)))
  have HB1 := Lib.hid (below_th HB.out hb1)
  clear hb1
  go_wp2_with fail
  refine (HD.out _).mono ?_
  rintro e w2 ⟨rfl, hb2⟩
  have hs1 := HR1.out.blk
  have hR2 := HR1.out.frame (hb2.block _ (lt_of_block hs1))
  have hB2 := below_th HB1.out hb2
  have hdv := HDV.out w2 hB2 hR2
  have hq1 := (hc.below hB2).cellPc
  have hq2 : db < w2.heap.size := (hc.below hB2).lt
  unfold insCells at hdv
  simp only at hdv
  clear hb2 hs1 HDV HD HF HR HR1 HB HB1
  generalize hW3 : w2.alloc (.cells #[.int .u8 32, .int .u8 d, .int .u8 a, .int .u8 b, .int .u32 imm] 91) = w3 at *
  have H3 := Lib.hid hdv
  obtain ⟨y0, y1, y2, y3, y4⟩ := hdv.cells
  simp only at y0 y1 y2 y3 y4
  have z0 := hdv.cpu.cellPc
  have z1 := hdv.cpu.cellReg a ha
  have z2 := hdv.cpu.cellReg b hb
  have z3 := hdv.cpu.thaw 16
  clear hdv hR2 hB2 hq1 hq2
  have H4 := Lib.hid H3.out
  clear H3
  go_wp2_with fail
  refine (putD H4.out.cpu d hd16 _ hvi.1 hvi.2).mono ?_
  rintro e w5 ⟨rfl, hc5, hm5⟩
  have hdv := H4.out.setC hc5 hm5
  obtain ⟨y0, y1, y2, y3, y4⟩ := hdv.cells
  simp only at y0 y1 y2 y3 y4
  have H5 := Lib.hid hdv
  clear hdv hc5 hm5 H4 z0 z1 z2 z3
  go_wp2_with fail
  refine (branches H5.out.cpu 32 d a b imm ha hb).mono ?_
  rintro e w6 ⟨rfl, hb6⟩
  have hbr : brV (putG r d imm) ⟨32, d, a, b, imm⟩ = false := brV_low (by omega)
  rw [hbr]
  have hdv := H5.out.below hb6
  obtain ⟨y0, y1, y2, y3, y4⟩ := hdv.cells
  simp only at y0 y1 y2 y3 y4
  have z0 := hdv.cpu.cellPc
  have z3 := hdv.cpu.thaw 16
  obtain ⟨c0, c1, c2, f0, f1, f2⟩ := hdv.rs.cells
  have hne : w.heap.size ≠ db := by have := hdv.nb.2.2.1; omega
  have H6 := Lib.hid hdv
  clear hdv hb6 hbr
  go_wp2
  refine bodyPost_ret (v := stopV 0 0 0) (by simp [results, Tryz.results29, go_sem, stopV, *]) rfl ?_
  exact HPQ.out _ _ _ 0 0 0 _ _ (H6.out.setC (H6.out.cpu.setPc (next pc) (next_bd pc).1 (next_bd pc).2) (Mod.setCell (F := fun j => j = db) (Mod.refl _ _) _ (.inl rfl) _)) rfl
set_option maxRecDepth 100000 in
set_option maxHeartbeats 2000000 in
theorem stepD_jump (hc : Cpu 107 w db r pc) (hr : Rsp w rb lv R) (hn : ¬ Rsp.foot rb lv R db) (hf : Sp.fitsB (rpgs R) pc 8 4 = true) (hd : Ins.decB (strOfNums (Sp.getL (rpgs R) pc 8)) = true)
    (d a b : Nat) (imm : Int) (hx : Ins.decI (strOfNums (Sp.getL (rpgs R) pc 8)) = ⟨40, d, a, b, imm⟩) (i0 : 0 ≤ imm) (i1 : imm ≤ 4294967295) (hd16 : d < 16) (ha : a < 16) (hb : b < 16) :
    Calls Tryz.prog 29 #[.pointer (some ⟨db, 0, none⟩), .pointer (some ⟨rb, 0, none⟩)] w (SdStPost w db rb lv R (goes (rpgs R) r imm)) := by
  have hva := rg_bd hc.regs a
  have hvb := rg_bd hc.regs b
  have ha1 : (a : Int) < 16 := by omega
  have hb1 : (b : Int) < 16 := by omega
  have hE := fetch_yes hf
  have hbW : Below w.heap.size w (w.alloc (.cells #[.int .u8 0, .int .u32 0, .int .i64 0] 29)) := (Below.refl _ _).alloc (Nat.le_refl _) _
  have hcp := (hc.below hbW).cellPc
  have hF := Rs.get_any (hr.same hbW) pc 8 4 hc.p0 hc.p1 (by omega) (by omega)
  rw [hE.1, hE.2] at hF
  have HF := Lib.hid hF
  have HB := Lib.hid hbW
  have HR := Lib.hid (⟨heap_alloc_new w _⟩ : RsBox (w.alloc (.cells #[.int .u8 0, .int .u32 0, .int .i64 0] 29)) w.heap.size)
  have HD : Hid (∀ W, Calls Tryz.prog 68 #[.string (strOfNums (Sp.getL (rpgs R) pc 8))] W fun e w' => e = .returned (.tuple #[Ins.val ⟨40, d, a, b, imm⟩, .int .i64 0]) ∧ Below W.heap.size W w') := Lib.hid fun W => by
    have h := Ins.decodeR (strOfNums (Sp.getL (rpgs R) pc 8)) (by rw [size_strOfNums, Sp.getL_length]; omega) W
    unfold Ins.decX Ins.decE at h
    rw [hd, hx] at h
    exact h
  have HDV : Hid (∀ w2, Below w.heap.size w w2 → RsBox w2 w.heap.size → DV w (w2.alloc (.cells (insCells ⟨40, d, a, b, imm⟩) 91)) w2.heap.size ⟨40, d, a, b, imm⟩ db rb lv R R r pc) := Lib.hid fun w2 hb2 hr2 => by
    have hb3 : Below w2.heap.size w2 (w2.alloc (.cells (insCells ⟨40, d, a, b, imm⟩) 91)) := (Below.refl _ _).alloc (Nat.le_refl _) _
    have hl := lt_of_block hr2.blk
    have hdl := hc.lt
    exact ⟨(hc.below hb2).below hb3, (hr.same hb2).same hb3, hn, heap_alloc_new w2 _, hr2.frame (hb3.block _ hl), (Mod.of_below hb2 _).same (Mod.of_below hb3 _), fun _ g => .inl g, by omega, fun k hk => by have := hr.lt hk; omega, by omega, by omega⟩
  have HPQ : Hid (∀ V bx R' k n y r' pc', DV w V bx ⟨40, d, a, b, imm⟩ db rb lv R R' r' pc' → (⟨k, n, y, r', pc', rpgs R'⟩ : Out) = (goes (rpgs R) r imm) → SdStPost w db rb lv R (goes (rpgs R) r imm) (.returned (stopV k n y)) (((V.setCell ⟨w.heap.size, 0, none⟩ (.int .u8 k)).setCell ⟨w.heap.size, 1, none⟩ (.int .u32 n)).setCell ⟨w.heap.size, 2, none⟩ (.int .i64 y))) := Lib.hid fun V bx R' k n y r' pc' h e => by rw [← e]; exact h.fin k n y
  generalize SdStPost w db rb lv R (goes (rpgs R) r imm) = PQ at *
  generalize strOfNums (Sp.getL (rpgs R) pc 8) = S at *
  have hnx : IntKind.u32.wrap (pc + 8) = next pc := by rw [IntKind.wrap_u32']; rfl
  clear hn hbW hE hf hF hd hx
  unfold Ins.val at HD
  simp only at HD
  go_enter Tryz.func29, Tryz.ntmps29
  go_wp2_with fail
  refine HF.out.mono ?_
  rintro e w1 ⟨rfl, hb1⟩
  have HR1 := Lib.hid (HR.out.frame (hb1.block _ (by simp)))
  have HB1 := Lib.hid (below_th HB.out hb1)
  clear hb1
  go_wp2_with fail
  refine (HD.out _).mono ?_
  rintro e w2 ⟨rfl, hb2⟩
  have hs1 := HR1.out.blk
  have hR2 := HR1.out.frame (hb2.block _ (lt_of_block hs1))
  have hB2 := below_th HB1.out hb2
  have hdv := HDV.out w2 hB2 hR2
  have hq1 := (hc.below hB2).cellPc
  have hq2 : db < w2.heap.size := (hc.below hB2).lt
  unfold insCells at hdv
  simp only at hdv
  clear hb2 hs1 HDV HD HF HR HR1 HB HB1
  generalize hW3 : w2.alloc (.cells #[.int .u8 40, .int .u8 d, .int .u8 a, .int .u8 b, .int .u32 imm] 91) = w3 at *
  have H3 := Lib.hid hdv
  obtain ⟨y0, y1, y2, y3, y4⟩ := hdv.cells
  simp only at y0 y1 y2 y3 y4
  have z0 := hdv.cpu.cellPc
  have z1 := hdv.cpu.cellReg a ha
  have z2 := hdv.cpu.cellReg b hb
  have z3 := hdv.cpu.thaw 16
  clear hdv hR2 hB2 hq1 hq2
  go_wp2_with fail
  refine (branches H3.out.cpu 40 d a b imm ha hb).mono ?_
  rintro e w6 ⟨rfl, hb6⟩
  have hbr : brV r ⟨40, d, a, b, imm⟩ = true := rfl
  rw [hbr]
  have hdv := H3.out.below hb6
  obtain ⟨y0, y1, y2, y3, y4⟩ := hdv.cells
  simp only at y0 y1 y2 y3 y4
  have z0 := hdv.cpu.cellPc
  have z3 := hdv.cpu.thaw 16
  obtain ⟨c0, c1, c2, f0, f1, f2⟩ := hdv.rs.cells
  have hne : w.heap.size ≠ db := by have := hdv.nb.2.2.1; omega
  have H6 := Lib.hid hdv
  clear hdv hb6 hbr
  go_wp2
  refine bodyPost_ret (v := stopV 0 0 0) (by simp [results, Tryz.results29, go_sem, stopV, *]) rfl ?_
  exact HPQ.out _ _ _ 0 0 0 _ _ (H6.out.setC (H6.out.cpu.setPc imm i0 i1) (Mod.setCell (F := fun j => j = db) (Mod.refl _ _) _ (.inl rfl) _)) rfl
set_option maxRecDepth 100000 in
set_option maxHeartbeats 2000000 in
theorem stepD_jal (hc : Cpu 107 w db r pc) (hr : Rsp w rb lv R) (hn : ¬ Rsp.foot rb lv R db) (hf : Sp.fitsB (rpgs R) pc 8 4 = true) (hd : Ins.decB (strOfNums (Sp.getL (rpgs R) pc 8)) = true)
    (d a b : Nat) (imm : Int) (hx : Ins.decI (strOfNums (Sp.getL (rpgs R) pc 8)) = ⟨41, d, a, b, imm⟩) (i0 : 0 ≤ imm) (i1 : imm ≤ 4294967295) (hd16 : d < 16) (ha : a < 16) (hb : b < 16) :
    Calls Tryz.prog 29 #[.pointer (some ⟨db, 0, none⟩), .pointer (some ⟨rb, 0, none⟩)] w (SdStPost w db rb lv R (goes (rpgs R) (putG r d (next pc)) imm)) := by
  have hva := rg_bd hc.regs a
  have hvb := rg_bd hc.regs b
  have ha1 : (a : Int) < 16 := by omega
  have hb1 : (b : Int) < 16 := by omega
  have hvn := next_bd pc
  have hE := fetch_yes hf
  have hbW : Below w.heap.size w (w.alloc (.cells #[.int .u8 0, .int .u32 0, .int .i64 0] 29)) := (Below.refl _ _).alloc (Nat.le_refl _) _
  have hcp := (hc.below hbW).cellPc
  have hF := Rs.get_any (hr.same hbW) pc 8 4 hc.p0 hc.p1 (by omega) (by omega)
  rw [hE.1, hE.2] at hF
  have HF := Lib.hid hF
  have HB := Lib.hid hbW
  have HR := Lib.hid (⟨heap_alloc_new w _⟩ : RsBox (w.alloc (.cells #[.int .u8 0, .int .u32 0, .int .i64 0] 29)) w.heap.size)
  have HD : Hid (∀ W, Calls Tryz.prog 68 #[.string (strOfNums (Sp.getL (rpgs R) pc 8))] W fun e w' => e = .returned (.tuple #[Ins.val ⟨41, d, a, b, imm⟩, .int .i64 0]) ∧ Below W.heap.size W w') := Lib.hid fun W => by
    have h := Ins.decodeR (strOfNums (Sp.getL (rpgs R) pc 8)) (by rw [size_strOfNums, Sp.getL_length]; omega) W
    unfold Ins.decX Ins.decE at h
    rw [hd, hx] at h
    exact h
  have HDV : Hid (∀ w2, Below w.heap.size w w2 → RsBox w2 w.heap.size → DV w (w2.alloc (.cells (insCells ⟨41, d, a, b, imm⟩) 91)) w2.heap.size ⟨41, d, a, b, imm⟩ db rb lv R R r pc) := Lib.hid fun w2 hb2 hr2 => by
    have hb3 : Below w2.heap.size w2 (w2.alloc (.cells (insCells ⟨41, d, a, b, imm⟩) 91)) := (Below.refl _ _).alloc (Nat.le_refl _) _
    have hl := lt_of_block hr2.blk
    have hdl := hc.lt
    exact ⟨(hc.below hb2).below hb3, (hr.same hb2).same hb3, hn, heap_alloc_new w2 _, hr2.frame (hb3.block _ hl), (Mod.of_below hb2 _).same (Mod.of_below hb3 _), fun _ g => .inl g, by omega, fun k hk => by have := hr.lt hk; omega, by omega, by omega⟩
  have HPQ : Hid (∀ V bx R' k n y r' pc', DV w V bx ⟨41, d, a, b, imm⟩ db rb lv R R' r' pc' → (⟨k, n, y, r', pc', rpgs R'⟩ : Out) = (goes (rpgs R) (putG r d (next pc)) imm) → SdStPost w db rb lv R (goes (rpgs R) (putG r d (next pc)) imm) (.returned (stopV k n y)) (((V.setCell ⟨w.heap.size, 0, none⟩ (.int .u8 k)).setCell ⟨w.heap.size, 1, none⟩ (.int .u32 n)).setCell ⟨w.heap.size, 2, none⟩ (.int .i64 y))) := Lib.hid fun V bx R' k n y r' pc' h e => by rw [← e]; exact h.fin k n y
  generalize SdStPost w db rb lv R (goes (rpgs R) (putG r d (next pc)) imm) = PQ at *
  generalize strOfNums (Sp.getL (rpgs R) pc 8) = S at *
  have hnx : IntKind.u32.wrap (pc + 8) = next pc := by rw [IntKind.wrap_u32']; rfl
  clear hn hbW hE hf hF hd hx
  unfold Ins.val at HD
  simp only at HD
  go_enter Tryz.func29, Tryz.ntmps29
  go_wp2_with fail
  refine HF.out.mono ?_
  rintro e w1 ⟨rfl, hb1⟩
  have HR1 := Lib.hid (HR.out.frame (hb1.block _ (by simp)))
  have HB1 := Lib.hid (below_th HB.out hb1)
  clear hb1
  go_wp2_with fail
  refine (HD.out _).mono ?_
  rintro e w2 ⟨rfl, hb2⟩
  have hs1 := HR1.out.blk
  have hR2 := HR1.out.frame (hb2.block _ (lt_of_block hs1))
  have hB2 := below_th HB1.out hb2
  have hdv := HDV.out w2 hB2 hR2
  have hq1 := (hc.below hB2).cellPc
  have hq2 : db < w2.heap.size := (hc.below hB2).lt
  unfold insCells at hdv
  simp only at hdv
  clear hb2 hs1 HDV HD HF HR HR1 HB HB1
  generalize hW3 : w2.alloc (.cells #[.int .u8 41, .int .u8 d, .int .u8 a, .int .u8 b, .int .u32 imm] 91) = w3 at *
  have H3 := Lib.hid hdv
  obtain ⟨y0, y1, y2, y3, y4⟩ := hdv.cells
  simp only at y0 y1 y2 y3 y4
  have z0 := hdv.cpu.cellPc
  have z1 := hdv.cpu.cellReg a ha
  have z2 := hdv.cpu.cellReg b hb
  have z3 := hdv.cpu.thaw 16
  clear hdv hR2 hB2 hq1 hq2
  go_wp2_with fail
  refine (branches H3.out.cpu 41 d a b imm ha hb).mono ?_
  rintro e w6 ⟨rfl, hb6⟩
  have hbr : brV r ⟨41, d, a, b, imm⟩ = true := rfl
  rw [hbr]
  have hdv := H3.out.below hb6
  obtain ⟨y0, y1, y2, y3, y4⟩ := hdv.cells
  simp only at y0 y1 y2 y3 y4
  have H6 := Lib.hid hdv
  clear hdv hb6 hbr
  have H4 := Lib.hid H6.out
  clear H6 H3 z0 z1 z2 z3
  go_wp2_with fail
  refine (putD H4.out.cpu d hd16 _ hvn.1 hvn.2).mono ?_
  rintro e w5 ⟨rfl, hc5, hm5⟩
  have hdv := H4.out.setC hc5 hm5
  obtain ⟨y0, y1, y2, y3, y4⟩ := hdv.cells
  simp only at y0 y1 y2 y3 y4
  have z0 := hdv.cpu.cellPc
  have z3 := hdv.cpu.thaw 16
  obtain ⟨c0, c1, c2, f0, f1, f2⟩ := hdv.rs.cells
  have hne : w.heap.size ≠ db := by have := hdv.nb.2.2.1; omega
  have H5 := Lib.hid hdv
  clear hdv hc5 hm5 H4
  go_wp2
  refine bodyPost_ret (v := stopV 0 0 0) (by simp [results, Tryz.results29, go_sem, stopV, *]) rfl ?_
  exact HPQ.out _ _ _ 0 0 0 _ _ (H5.out.setC (H5.out.cpu.setPc imm i0 i1) (Mod.setCell (F := fun j => j = db) (Mod.refl _ _) _ (.inl rfl) _)) rfl
set_option maxRecDepth 100000 in
set_option maxHeartbeats 2000000 in
theorem stepD_beq_true (hc : Cpu 107 w db r pc) (hr : Rsp w rb lv R) (hn : ¬ Rsp.foot rb lv R db) (hf : Sp.fitsB (rpgs R) pc 8 4 = true) (hd : Ins.decB (strOfNums (Sp.getL (rpgs R) pc 8)) = true)
    (d a b : Nat) (imm : Int) (hx : Ins.decI (strOfNums (Sp.getL (rpgs R) pc 8)) = ⟨43, d, a, b, imm⟩) (i0 : 0 ≤ imm) (i1 : imm ≤ 4294967295) (hd16 : d < 16) (ha : a < 16) (hb : b < 16) (hcd : (rg r a == rg r b) = true) :
    Calls Tryz.prog 29 #[.pointer (some ⟨db, 0, none⟩), .pointer (some ⟨rb, 0, none⟩)] w (SdStPost w db rb lv R (goes (rpgs R) r imm)) := by
  have hva := rg_bd hc.regs a
  have hvb := rg_bd hc.regs b
  have ha1 : (a : Int) < 16 := by omega
  have hb1 : (b : Int) < 16 := by omega
  have hE := fetch_yes hf
  have hbW : Below w.heap.size w (w.alloc (.cells #[.int .u8 0, .int .u32 0, .int .i64 0] 29)) := (Below.refl _ _).alloc (Nat.le_refl _) _
  have hcp := (hc.below hbW).cellPc
  have hF := Rs.get_any (hr.same hbW) pc 8 4 hc.p0 hc.p1 (by omega) (by omega)
  rw [hE.1, hE.2] at hF
  have HF := Lib.hid hF
  have HB := Lib.hid hbW
  have HR := Lib.hid (⟨heap_alloc_new w _⟩ : RsBox (w.alloc (.cells #[.int .u8 0, .int .u32 0, .int .i64 0] 29)) w.heap.size)
  have HD : Hid (∀ W, Calls Tryz.prog 68 #[.string (strOfNums (Sp.getL (rpgs R) pc 8))] W fun e w' => e = .returned (.tuple #[Ins.val ⟨43, d, a, b, imm⟩, .int .i64 0]) ∧ Below W.heap.size W w') := Lib.hid fun W => by
    have h := Ins.decodeR (strOfNums (Sp.getL (rpgs R) pc 8)) (by rw [size_strOfNums, Sp.getL_length]; omega) W
    unfold Ins.decX Ins.decE at h
    rw [hd, hx] at h
    exact h
  have HDV : Hid (∀ w2, Below w.heap.size w w2 → RsBox w2 w.heap.size → DV w (w2.alloc (.cells (insCells ⟨43, d, a, b, imm⟩) 91)) w2.heap.size ⟨43, d, a, b, imm⟩ db rb lv R R r pc) := Lib.hid fun w2 hb2 hr2 => by
    have hb3 : Below w2.heap.size w2 (w2.alloc (.cells (insCells ⟨43, d, a, b, imm⟩) 91)) := (Below.refl _ _).alloc (Nat.le_refl _) _
    have hl := lt_of_block hr2.blk
    have hdl := hc.lt
    exact ⟨(hc.below hb2).below hb3, (hr.same hb2).same hb3, hn, heap_alloc_new w2 _, hr2.frame (hb3.block _ hl), (Mod.of_below hb2 _).same (Mod.of_below hb3 _), fun _ g => .inl g, by omega, fun k hk => by have := hr.lt hk; omega, by omega, by omega⟩
  have HPQ : Hid (∀ V bx R' k n y r' pc', DV w V bx ⟨43, d, a, b, imm⟩ db rb lv R R' r' pc' → (⟨k, n, y, r', pc', rpgs R'⟩ : Out) = (goes (rpgs R) r imm) → SdStPost w db rb lv R (goes (rpgs R) r imm) (.returned (stopV k n y)) (((V.setCell ⟨w.heap.size, 0, none⟩ (.int .u8 k)).setCell ⟨w.heap.size, 1, none⟩ (.int .u32 n)).setCell ⟨w.heap.size, 2, none⟩ (.int .i64 y))) := Lib.hid fun V bx R' k n y r' pc' h e => by rw [← e]; exact h.fin k n y
  generalize SdStPost w db rb lv R (goes (rpgs R) r imm) = PQ at *
  generalize strOfNums (Sp.getL (rpgs R) pc 8) = S at *
  have hnx : IntKind.u32.wrap (pc + 8) = next pc := by rw [IntKind.wrap_u32']; rfl
  clear hn hbW hE hf hF hd hx
  unfold Ins.val at HD
  simp only at HD
  go_enter Tryz.func29, Tryz.ntmps29
  go_wp2_with fail
  refine HF.out.mono ?_
  rintro e w1 ⟨rfl, hb1⟩
  have HR1 := Lib.hid (HR.out.frame (hb1.block _ (by simp)))
  have HB1 := Lib.hid (below_th HB.out hb1)
  clear hb1
  go_wp2_with fail
  refine (HD.out _).mono ?_
  rintro e w2 ⟨rfl, hb2⟩
  have hs1 := HR1.out.blk
  have hR2 := HR1.out.frame (hb2.block _ (lt_of_block hs1))
  have hB2 := below_th HB1.out hb2
  have hdv := HDV.out w2 hB2 hR2
  have hq1 := (hc.below hB2).cellPc
  have hq2 : db < w2.heap.size := (hc.below hB2).lt
  unfold insCells at hdv
  simp only at hdv
  clear hb2 hs1 HDV HD HF HR HR1 HB HB1
  generalize hW3 : w2.alloc (.cells #[.int .u8 43, .int .u8 d, .int .u8 a, .int .u8 b, .int .u32 imm] 91) = w3 at *
  have H3 := Lib.hid hdv
  obtain ⟨y0, y1, y2, y3, y4⟩ := hdv.cells
  simp only at y0 y1 y2 y3 y4
  have z0 := hdv.cpu.cellPc
  have z1 := hdv.cpu.cellReg a ha
  have z2 := hdv.cpu.cellReg b hb
  have z3 := hdv.cpu.thaw 16
  clear hdv hR2 hB2 hq1 hq2
  go_wp2_with fail
  refine (branches H3.out.cpu 43 d a b imm ha hb).mono ?_
  rintro e w6 ⟨rfl, hb6⟩
  have hbr : brV r ⟨43, d, a, b, imm⟩ = true := hcd
  rw [hbr]
  have hdv := H3.out.below hb6
  obtain ⟨y0, y1, y2, y3, y4⟩ := hdv.cells
  simp only at y0 y1 y2 y3 y4
  have z0 := hdv.cpu.cellPc
  have z3 := hdv.cpu.thaw 16
  obtain ⟨c0, c1, c2, f0, f1, f2⟩ := hdv.rs.cells
  have hne : w.heap.size ≠ db := by have := hdv.nb.2.2.1; omega
  have H6 := Lib.hid hdv
  clear hdv hb6 hbr
  go_wp2
  refine bodyPost_ret (v := stopV 0 0 0) (by simp [results, Tryz.results29, go_sem, stopV, *]) rfl ?_
  exact HPQ.out _ _ _ 0 0 0 _ _ (H6.out.setC (H6.out.cpu.setPc imm i0 i1) (Mod.setCell (F := fun j => j = db) (Mod.refl _ _) _ (.inl rfl) _)) rfl
set_option maxRecDepth 100000 in
set_option maxHeartbeats 2000000 in
theorem stepD_beq_false (hc : Cpu 107 w db r pc) (hr : Rsp w rb lv R) (hn : ¬ Rsp.foot rb lv R db) (hf : Sp.fitsB (rpgs R) pc 8 4 = true) (hd : Ins.decB (strOfNums (Sp.getL (rpgs R) pc 8)) = true)
    (d a b : Nat) (imm : Int) (hx : Ins.decI (strOfNums (Sp.getL (rpgs R) pc 8)) = ⟨43, d, a, b, imm⟩) (i0 : 0 ≤ imm) (i1 : imm ≤ 4294967295) (hd16 : d < 16) (ha : a < 16) (hb : b < 16) (hcd : (rg r a == rg r b) = false) :
    Calls Tryz.prog 29 #[.pointer (some ⟨db, 0, none⟩), .pointer (some ⟨rb, 0, none⟩)] w (SdStPost w db rb lv R (goes (rpgs R) r (next pc))) := by
  have hva := rg_bd hc.regs a
  have hvb := rg_bd hc.regs b
  have ha1 : (a : Int) < 16 := by omega
  have hb1 : (b : Int) < 16 := by omega
  have hE := fetch_yes hf
  have hbW : Below w.heap.size w (w.alloc (.cells #[.int .u8 0, .int .u32 0, .int .i64 0] 29)) := (Below.refl _ _).alloc (Nat.le_refl _) _
  have hcp := (hc.below hbW).cellPc
  have hF := Rs.get_any (hr.same hbW) pc 8 4 hc.p0 hc.p1 (by omega) (by omega)
  rw [hE.1, hE.2] at hF
  have HF := Lib.hid hF
  have HB := Lib.hid hbW
  have HR := Lib.hid (⟨heap_alloc_new w _⟩ : RsBox (w.alloc (.cells #[.int .u8 0, .int .u32 0, .int .i64 0] 29)) w.heap.size)
  have HD : Hid (∀ W, Calls Tryz.prog 68 #[.string (strOfNums (Sp.getL (rpgs R) pc 8))] W fun e w' => e = .returned (.tuple #[Ins.val ⟨43, d, a, b, imm⟩, .int .i64 0]) ∧ Below W.heap.size W w') := Lib.hid fun W => by
    have h := Ins.decodeR (strOfNums (Sp.getL (rpgs R) pc 8)) (by rw [size_strOfNums, Sp.getL_length]; omega) W
    unfold Ins.decX Ins.decE at h
    rw [hd, hx] at h
    exact h
  have HDV : Hid (∀ w2, Below w.heap.size w w2 → RsBox w2 w.heap.size → DV w (w2.alloc (.cells (insCells ⟨43, d, a, b, imm⟩) 91)) w2.heap.size ⟨43, d, a, b, imm⟩ db rb lv R R r pc) := Lib.hid fun w2 hb2 hr2 => by
    have hb3 : Below w2.heap.size w2 (w2.alloc (.cells (insCells ⟨43, d, a, b, imm⟩) 91)) := (Below.refl _ _).alloc (Nat.le_refl _) _
    have hl := lt_of_block hr2.blk
    have hdl := hc.lt
    exact ⟨(hc.below hb2).below hb3, (hr.same hb2).same hb3, hn, heap_alloc_new w2 _, hr2.frame (hb3.block _ hl), (Mod.of_below hb2 _).same (Mod.of_below hb3 _), fun _ g => .inl g, by omega, fun k hk => by have := hr.lt hk; omega, by omega, by omega⟩
  have HPQ : Hid (∀ V bx R' k n y r' pc', DV w V bx ⟨43, d, a, b, imm⟩ db rb lv R R' r' pc' → (⟨k, n, y, r', pc', rpgs R'⟩ : Out) = (goes (rpgs R) r (next pc)) → SdStPost w db rb lv R (goes (rpgs R) r (next pc)) (.returned (stopV k n y)) (((V.setCell ⟨w.heap.size, 0, none⟩ (.int .u8 k)).setCell ⟨w.heap.size, 1, none⟩ (.int .u32 n)).setCell ⟨w.heap.size, 2, none⟩ (.int .i64 y))) := Lib.hid fun V bx R' k n y r' pc' h e => by rw [← e]; exact h.fin k n y
  generalize SdStPost w db rb lv R (goes (rpgs R) r (next pc)) = PQ at *
  generalize strOfNums (Sp.getL (rpgs R) pc 8) = S at *
  have hnx : IntKind.u32.wrap (pc + 8) = next pc := by rw [IntKind.wrap_u32']; rfl
  clear hn hbW hE hf hF hd hx
  unfold Ins.val at HD
  simp only at HD
  go_enter Tryz.func29, Tryz.ntmps29
  go_wp2_with fail
  refine HF.out.mono ?_
  rintro e w1 ⟨rfl, hb1⟩
  have HR1 := Lib.hid (HR.out.frame (hb1.block _ (by simp)))
  have HB1 := Lib.hid (below_th HB.out hb1)
  clear hb1
  go_wp2_with fail
  refine (HD.out _).mono ?_
  rintro e w2 ⟨rfl, hb2⟩
  have hs1 := HR1.out.blk
  have hR2 := HR1.out.frame (hb2.block _ (lt_of_block hs1))
  have hB2 := below_th HB1.out hb2
  have hdv := HDV.out w2 hB2 hR2
  have hq1 := (hc.below hB2).cellPc
  have hq2 : db < w2.heap.size := (hc.below hB2).lt
  unfold insCells at hdv
  simp only at hdv
  clear hb2 hs1 HDV HD HF HR HR1 HB HB1
  generalize hW3 : w2.alloc (.cells #[.int .u8 43, .int .u8 d, .int .u8 a, .int .u8 b, .int .u32 imm] 91) = w3 at *
  have H3 := Lib.hid hdv
  obtain ⟨y0, y1, y2, y3, y4⟩ := hdv.cells
  simp only at y0 y1 y2 y3 y4
  have z0 := hdv.cpu.cellPc
  have z1 := hdv.cpu.cellReg a ha
  have z2 := hdv.cpu.cellReg b hb
  have z3 := hdv.cpu.thaw 16
  clear hdv hR2 hB2 hq1 hq2
  go_wp2_with fail
  refine (branches H3.out.cpu 43 d a b imm ha hb).mono ?_
  rintro e w6 ⟨rfl, hb6⟩
  have hbr : brV r ⟨43, d, a, b, imm⟩ = false := hcd
  rw [hbr]
  have hdv := H3.out.below hb6
  obtain ⟨y0, y1, y2, y3, y4⟩ := hdv.cells
  simp only at y0 y1 y2 y3 y4
  have z0 := hdv.cpu.cellPc
  have z3 := hdv.cpu.thaw 16
  obtain ⟨c0, c1, c2, f0, f1, f2⟩ := hdv.rs.cells
  have hne : w.heap.size ≠ db := by have := hdv.nb.2.2.1; omega
  have H6 := Lib.hid hdv
  clear hdv hb6 hbr
  go_wp2
  refine bodyPost_ret (v := stopV 0 0 0) (by simp [results, Tryz.results29, go_sem, stopV, *]) rfl ?_
  exact HPQ.out _ _ _ 0 0 0 _ _ (H6.out.setC (H6.out.cpu.setPc (next pc) (next_bd pc).1 (next_bd pc).2) (Mod.setCell (F := fun j => j = db) (Mod.refl _ _) _ (.inl rfl) _)) rfl
set_option maxRecDepth 100000 in
set_option maxHeartbeats 2000000 in
theorem stepD_bne_true (hc : Cpu 107 w db r pc) (hr : Rsp w rb lv R) (hn : ¬ Rsp.foot rb lv R db) (hf : Sp.fitsB (rpgs R) pc 8 4 = true) (hd : Ins.decB (strOfNums (Sp.getL (rpgs R) pc 8)) = true)
    (d a b : Nat) (imm : Int) (hx : Ins.decI (strOfNums (Sp.getL (rpgs R) pc 8)) = ⟨44, d, a, b, imm⟩) (i0 : 0 ≤ imm) (i1 : imm ≤ 4294967295) (hd16 : d < 16) (ha : a < 16) (hb : b < 16) (hcd : (rg r a != rg r b) = true) :
    Calls Tryz.prog 29 #[.pointer (some ⟨db, 0, none⟩), .pointer (some ⟨rb, 0, none⟩)] w (SdStPost w db rb lv R (goes (rpgs R) r imm)) := by
  have hva := rg_bd hc.regs a
  have hvb := rg_bd hc.regs b
  have ha1 : (a : Int) < 16 := by omega
  have hb1 : (b : Int) < 16 := by omega
  have hE := fetch_yes hf
  have hbW : Below w.heap.size w (w.alloc (.cells #[.int .u8 0, .int .u32 0, .int .i64 0] 29)) := (Below.refl _ _).alloc (Nat.le_refl _) _
  have hcp := (hc.below hbW).cellPc
  have hF := Rs.get_any (hr.same hbW) pc 8 4 hc.p0 hc.p1 (by omega) (by omega)
  rw [hE.1, hE.2] at hF
  have HF := Lib.hid hF
  have HB := Lib.hid hbW
  have HR := Lib.hid (⟨heap_alloc_new w _⟩ : RsBox (w.alloc (.cells #[.int .u8 0, .int .u32 0, .int .i64 0] 29)) w.heap.size)
  have HD : Hid (∀ W, Calls Tryz.prog 68 #[.string (strOfNums (Sp.getL (rpgs R) pc 8))] W fun e w' => e = .returned (.tuple #[Ins.val ⟨44, d, a, b, imm⟩, .int .i64 0]) ∧ Below W.heap.size W w') := Lib.hid fun W => by
    have h := Ins.decodeR (strOfNums (Sp.getL (rpgs R) pc 8)) (by rw [size_strOfNums, Sp.getL_length]; omega) W
    unfold Ins.decX Ins.decE at h
    rw [hd, hx] at h
    exact h
  have HDV : Hid (∀ w2, Below w.heap.size w w2 → RsBox w2 w.heap.size → DV w (w2.alloc (.cells (insCells ⟨44, d, a, b, imm⟩) 91)) w2.heap.size ⟨44, d, a, b, imm⟩ db rb lv R R r pc) := Lib.hid fun w2 hb2 hr2 => by
    have hb3 : Below w2.heap.size w2 (w2.alloc (.cells (insCells ⟨44, d, a, b, imm⟩) 91)) := (Below.refl _ _).alloc (Nat.le_refl _) _
    have hl := lt_of_block hr2.blk
    have hdl := hc.lt
    exact ⟨(hc.below hb2).below hb3, (hr.same hb2).same hb3, hn, heap_alloc_new w2 _, hr2.frame (hb3.block _ hl), (Mod.of_below hb2 _).same (Mod.of_below hb3 _), fun _ g => .inl g, by omega, fun k hk => by have := hr.lt hk; omega, by omega, by omega⟩
  have HPQ : Hid (∀ V bx R' k n y r' pc', DV w V bx ⟨44, d, a, b, imm⟩ db rb lv R R' r' pc' → (⟨k, n, y, r', pc', rpgs R'⟩ : Out) = (goes (rpgs R) r imm) → SdStPost w db rb lv R (goes (rpgs R) r imm) (.returned (stopV k n y)) (((V.setCell ⟨w.heap.size, 0, none⟩ (.int .u8 k)).setCell ⟨w.heap.size, 1, none⟩ (.int .u32 n)).setCell ⟨w.heap.size, 2, none⟩ (.int .i64 y))) := Lib.hid fun V bx R' k n y r' pc' h e => by rw [← e]; exact h.fin k n y
  generalize SdStPost w db rb lv R (goes (rpgs R) r imm) = PQ at *
  generalize strOfNums (Sp.getL (rpgs R) pc 8) = S at *
  have hnx : IntKind.u32.wrap (pc + 8) = next pc := by rw [IntKind.wrap_u32']; rfl
  clear hn hbW hE hf hF hd hx
  unfold Ins.val at HD
  simp only at HD
  go_enter Tryz.func29, Tryz.ntmps29
  go_wp2_with fail
  refine HF.out.mono ?_
  rintro e w1 ⟨rfl, hb1⟩
  have HR1 := Lib.hid (HR.out.frame (hb1.block _ (by simp)))
  have HB1 := Lib.hid (below_th HB.out hb1)
  clear hb1
  go_wp2_with fail
  refine (HD.out _).mono ?_
  rintro e w2 ⟨rfl, hb2⟩
  have hs1 := HR1.out.blk
  have hR2 := HR1.out.frame (hb2.block _ (lt_of_block hs1))
  have hB2 := below_th HB1.out hb2
  have hdv := HDV.out w2 hB2 hR2
  have hq1 := (hc.below hB2).cellPc
  have hq2 : db < w2.heap.size := (hc.below hB2).lt
  unfold insCells at hdv
  simp only at hdv
  clear hb2 hs1 HDV HD HF HR HR1 HB HB1
  generalize hW3 : w2.alloc (.cells #[.int .u8 44, .int .u8 d, .int .u8 a, .int .u8 b, .int .u32 imm] 91) = w3 at *
  have H3 := Lib.hid hdv
  obtain ⟨y0, y1, y2, y3, y4⟩ := hdv.cells
  simp only at y0 y1 y2 y3 y4
  have z0 := hdv.cpu.cellPc
  have z1 := hdv.cpu.cellReg a ha
  have z2 := hdv.cpu.cellReg b hb
  have z3 := hdv.cpu.thaw 16
  clear hdv hR2 hB2 hq1 hq2
  go_wp2_with fail
  refine (branches H3.out.cpu 44 d a b imm ha hb).mono ?_
  rintro e w6 ⟨rfl, hb6⟩
  have hbr : brV r ⟨44, d, a, b, imm⟩ = true := hcd
  rw [hbr]
  have hdv := H3.out.below hb6
  obtain ⟨y0, y1, y2, y3, y4⟩ := hdv.cells
  simp only at y0 y1 y2 y3 y4
  have z0 := hdv.cpu.cellPc
  have z3 := hdv.cpu.thaw 16
  obtain ⟨c0, c1, c2, f0, f1, f2⟩ := hdv.rs.cells
  have hne : w.heap.size ≠ db := by have := hdv.nb.2.2.1; omega
  have H6 := Lib.hid hdv
  clear hdv hb6 hbr
  go_wp2
  refine bodyPost_ret (v := stopV 0 0 0) (by simp [results, Tryz.results29, go_sem, stopV, *]) rfl ?_
  exact HPQ.out _ _ _ 0 0 0 _ _ (H6.out.setC (H6.out.cpu.setPc imm i0 i1) (Mod.setCell (F := fun j => j = db) (Mod.refl _ _) _ (.inl rfl) _)) rfl
set_option maxRecDepth 100000 in
set_option maxHeartbeats 2000000 in
theorem stepD_bne_false (hc : Cpu 107 w db r pc) (hr : Rsp w rb lv R) (hn : ¬ Rsp.foot rb lv R db) (hf : Sp.fitsB (rpgs R) pc 8 4 = true) (hd : Ins.decB (strOfNums (Sp.getL (rpgs R) pc 8)) = true)
    (d a b : Nat) (imm : Int) (hx : Ins.decI (strOfNums (Sp.getL (rpgs R) pc 8)) = ⟨44, d, a, b, imm⟩) (i0 : 0 ≤ imm) (i1 : imm ≤ 4294967295) (hd16 : d < 16) (ha : a < 16) (hb : b < 16) (hcd : (rg r a != rg r b) = false) :
    Calls Tryz.prog 29 #[.pointer (some ⟨db, 0, none⟩), .pointer (some ⟨rb, 0, none⟩)] w (SdStPost w db rb lv R (goes (rpgs R) r (next pc))) := by
  have hva := rg_bd hc.regs a
  have hvb := rg_bd hc.regs b
  have ha1 : (a : Int) < 16 := by omega
  have hb1 : (b : Int) < 16 := by omega
  have hE := fetch_yes hf
  have hbW : Below w.heap.size w (w.alloc (.cells #[.int .u8 0, .int .u32 0, .int .i64 0] 29)) := (Below.refl _ _).alloc (Nat.le_refl _) _
  have hcp := (hc.below hbW).cellPc
  have hF := Rs.get_any (hr.same hbW) pc 8 4 hc.p0 hc.p1 (by omega) (by omega)
  rw [hE.1, hE.2] at hF
  have HF := Lib.hid hF
  have HB := Lib.hid hbW
  have HR := Lib.hid (⟨heap_alloc_new w _⟩ : RsBox (w.alloc (.cells #[.int .u8 0, .int .u32 0, .int .i64 0] 29)) w.heap.size)
  have HD : Hid (∀ W, Calls Tryz.prog 68 #[.string (strOfNums (Sp.getL (rpgs R) pc 8))] W fun e w' => e = .returned (.tuple #[Ins.val ⟨44, d, a, b, imm⟩, .int .i64 0]) ∧ Below W.heap.size W w') := Lib.hid fun W => by
    have h := Ins.decodeR (strOfNums (Sp.getL (rpgs R) pc 8)) (by rw [size_strOfNums, Sp.getL_length]; omega) W
    unfold Ins.decX Ins.decE at h
    rw [hd, hx] at h
    exact h
  have HDV : Hid (∀ w2, Below w.heap.size w w2 → RsBox w2 w.heap.size → DV w (w2.alloc (.cells (insCells ⟨44, d, a, b, imm⟩) 91)) w2.heap.size ⟨44, d, a, b, imm⟩ db rb lv R R r pc) := Lib.hid fun w2 hb2 hr2 => by
    have hb3 : Below w2.heap.size w2 (w2.alloc (.cells (insCells ⟨44, d, a, b, imm⟩) 91)) := (Below.refl _ _).alloc (Nat.le_refl _) _
    have hl := lt_of_block hr2.blk
    have hdl := hc.lt
    exact ⟨(hc.below hb2).below hb3, (hr.same hb2).same hb3, hn, heap_alloc_new w2 _, hr2.frame (hb3.block _ hl), (Mod.of_below hb2 _).same (Mod.of_below hb3 _), fun _ g => .inl g, by omega, fun k hk => by have := hr.lt hk; omega, by omega, by omega⟩
  have HPQ : Hid (∀ V bx R' k n y r' pc', DV w V bx ⟨44, d, a, b, imm⟩ db rb lv R R' r' pc' → (⟨k, n, y, r', pc', rpgs R'⟩ : Out) = (goes (rpgs R) r (next pc)) → SdStPost w db rb lv R (goes (rpgs R) r (next pc)) (.returned (stopV k n y)) (((V.setCell ⟨w.heap.size, 0, none⟩ (.int .u8 k)).setCell ⟨w.heap.size, 1, none⟩ (.int .u32 n)).setCell ⟨w.heap.size, 2, none⟩ (.int .i64 y))) := Lib.hid fun V bx R' k n y r' pc' h e => by rw [← e]; exact h.fin k n y
  generalize SdStPost w db rb lv R (goes (rpgs R) r (next pc)) = PQ at *
  generalize strOfNums (Sp.getL (rpgs R) pc 8) = S at *
  have hnx : IntKind.u32.wrap (pc + 8) = next pc := by rw [IntKind.wrap_u32']; rfl
  clear hn hbW hE hf hF hd hx
  unfold Ins.val at HD
  simp only at HD
  go_enter Tryz.func29, Tryz.ntmps29
  go_wp2_with fail
  refine HF.out.mono ?_
  rintro e w1 ⟨rfl, hb1⟩
  have HR1 := Lib.hid (HR.out.frame (hb1.block _ (by simp)))
  have HB1 := Lib.hid (below_th HB.out hb1)
  clear hb1
  go_wp2_with fail
  refine (HD.out _).mono ?_
  rintro e w2 ⟨rfl, hb2⟩
  have hs1 := HR1.out.blk
  have hR2 := HR1.out.frame (hb2.block _ (lt_of_block hs1))
  have hB2 := below_th HB1.out hb2
  have hdv := HDV.out w2 hB2 hR2
  have hq1 := (hc.below hB2).cellPc
  have hq2 : db < w2.heap.size := (hc.below hB2).lt
  unfold insCells at hdv
  simp only at hdv
  clear hb2 hs1 HDV HD HF HR HR1 HB HB1
  generalize hW3 : w2.alloc (.cells #[.int .u8 44, .int .u8 d, .int .u8 a, .int .u8 b, .int .u32 imm] 91) = w3 at *
  have H3 := Lib.hid hdv
  obtain ⟨y0, y1, y2, y3, y4⟩ := hdv.cells
  simp only at y0 y1 y2 y3 y4
  have z0 := hdv.cpu.cellPc
  have z1 := hdv.cpu.cellReg a ha
  have z2 := hdv.cpu.cellReg b hb
  have z3 := hdv.cpu.thaw 16
  clear hdv hR2 hB2 hq1 hq2
  go_wp2_with fail
  refine (branches H3.out.cpu 44 d a b imm ha hb).mono ?_
  rintro e w6 ⟨rfl, hb6⟩
  have hbr : brV r ⟨44, d, a, b, imm⟩ = false := hcd
  rw [hbr]
  have hdv := H3.out.below hb6
  obtain ⟨y0, y1, y2, y3, y4⟩ := hdv.cells
  simp only at y0 y1 y2 y3 y4
  have z0 := hdv.cpu.cellPc
  have z3 := hdv.cpu.thaw 16
  obtain ⟨c0, c1, c2, f0, f1, f2⟩ := hdv.rs.cells
  have hne : w.heap.size ≠ db := by have := hdv.nb.2.2.1; omega
  have H6 := Lib.hid hdv
  clear hdv hb6 hbr
  go_wp2
  refine bodyPost_ret (v := stopV 0 0 0) (by simp [results, Tryz.results29, go_sem, stopV, *]) rfl ?_
  exact HPQ.out _ _ _ 0 0 0 _ _ (H6.out.setC (H6.out.cpu.setPc (next pc) (next_bd pc).1 (next_bd pc).2) (Mod.setCell (F := fun j => j = db) (Mod.refl _ _) _ (.inl rfl) _)) rfl
set_option maxRecDepth 100000 in
set_option maxHeartbeats 2000000 in
theorem stepD_bltu_true (hc : Cpu 107 w db r pc) (hr : Rsp w rb lv R) (hn : ¬ Rsp.foot rb lv R db) (hf : Sp.fitsB (rpgs R) pc 8 4 = true) (hd : Ins.decB (strOfNums (Sp.getL (rpgs R) pc 8)) = true)
    (d a b : Nat) (imm : Int) (hx : Ins.decI (strOfNums (Sp.getL (rpgs R) pc 8)) = ⟨45, d, a, b, imm⟩) (i0 : 0 ≤ imm) (i1 : imm ≤ 4294967295) (hd16 : d < 16) (ha : a < 16) (hb : b < 16) (hcd : (decide (rg r a < rg r b)) = true) :
    Calls Tryz.prog 29 #[.pointer (some ⟨db, 0, none⟩), .pointer (some ⟨rb, 0, none⟩)] w (SdStPost w db rb lv R (goes (rpgs R) r imm)) := by
  have hva := rg_bd hc.regs a
  have hvb := rg_bd hc.regs b
  have ha1 : (a : Int) < 16 := by omega
  have hb1 : (b : Int) < 16 := by omega
  have hE := fetch_yes hf
  have hbW : Below w.heap.size w (w.alloc (.cells #[.int .u8 0, .int .u32 0, .int .i64 0] 29)) := (Below.refl _ _).alloc (Nat.le_refl _) _
  have hcp := (hc.below hbW).cellPc
  have hF := Rs.get_any (hr.same hbW) pc 8 4 hc.p0 hc.p1 (by omega) (by omega)
  rw [hE.1, hE.2] at hF
  have HF := Lib.hid hF
  have HB := Lib.hid hbW
  have HR := Lib.hid (⟨heap_alloc_new w _⟩ : RsBox (w.alloc (.cells #[.int .u8 0, .int .u32 0, .int .i64 0] 29)) w.heap.size)
  have HD : Hid (∀ W, Calls Tryz.prog 68 #[.string (strOfNums (Sp.getL (rpgs R) pc 8))] W fun e w' => e = .returned (.tuple #[Ins.val ⟨45, d, a, b, imm⟩, .int .i64 0]) ∧ Below W.heap.size W w') := Lib.hid fun W => by
    have h := Ins.decodeR (strOfNums (Sp.getL (rpgs R) pc 8)) (by rw [size_strOfNums, Sp.getL_length]; omega) W
    unfold Ins.decX Ins.decE at h
    rw [hd, hx] at h
    exact h
  have HDV : Hid (∀ w2, Below w.heap.size w w2 → RsBox w2 w.heap.size → DV w (w2.alloc (.cells (insCells ⟨45, d, a, b, imm⟩) 91)) w2.heap.size ⟨45, d, a, b, imm⟩ db rb lv R R r pc) := Lib.hid fun w2 hb2 hr2 => by
    have hb3 : Below w2.heap.size w2 (w2.alloc (.cells (insCells ⟨45, d, a, b, imm⟩) 91)) := (Below.refl _ _).alloc (Nat.le_refl _) _
    have hl := lt_of_block hr2.blk
    have hdl := hc.lt
    exact ⟨(hc.below hb2).below hb3, (hr.same hb2).same hb3, hn, heap_alloc_new w2 _, hr2.frame (hb3.block _ hl), (Mod.of_below hb2 _).same (Mod.of_below hb3 _), fun _ g => .inl g, by omega, fun k hk => by have := hr.lt hk; omega, by omega, by omega⟩
  have HPQ : Hid (∀ V bx R' k n y r' pc', DV w V bx ⟨45, d, a, b, imm⟩ db rb lv R R' r' pc' → (⟨k, n, y, r', pc', rpgs R'⟩ : Out) = (goes (rpgs R) r imm) → SdStPost w db rb lv R (goes (rpgs R) r imm) (.returned (stopV k n y)) (((V.setCell ⟨w.heap.size, 0, none⟩ (.int .u8 k)).setCell ⟨w.heap.size, 1, none⟩ (.int .u32 n)).setCell ⟨w.heap.size, 2, none⟩ (.int .i64 y))) := Lib.hid fun V bx R' k n y r' pc' h e => by rw [← e]; exact h.fin k n y
  generalize SdStPost w db rb lv R (goes (rpgs R) r imm) = PQ at *
  generalize strOfNums (Sp.getL (rpgs R) pc 8) = S at *
  have hnx : IntKind.u32.wrap (pc + 8) = next pc := by rw [IntKind.wrap_u32']; rfl
  clear hn hbW hE hf hF hd hx
  unfold Ins.val at HD
  simp only at HD
  go_enter Tryz.func29, Tryz.ntmps29
  go_wp2_with fail
  refine HF.out.mono ?_
  rintro e w1 ⟨rfl, hb1⟩
  have HR1 := Lib.hid (HR.out.frame (hb1.block _ (by simp)))
  have HB1 := Lib.hid (below_th HB.out hb1)
  clear hb1
  go_wp2_with fail
  refine (HD.out _).mono ?_
  rintro e w2 ⟨rfl, hb2⟩
  have hs1 := HR1.out.blk
  have hR2 := HR1.out.frame (hb2.block _ (lt_of_block hs1))
  have hB2 := below_th HB1.out hb2
  have hdv := HDV.out w2 hB2 hR2
  have hq1 := (hc.below hB2).cellPc
  have hq2 : db < w2.heap.size := (hc.below hB2).lt
  unfold insCells at hdv
  simp only at hdv
  clear hb2 hs1 HDV HD HF HR HR1 HB HB1
  generalize hW3 : w2.alloc (.cells #[.int .u8 45, .int .u8 d, .int .u8 a, .int .u8 b, .int .u32 imm] 91) = w3 at *
  have H3 := Lib.hid hdv
  obtain ⟨y0, y1, y2, y3, y4⟩ := hdv.cells
  simp only at y0 y1 y2 y3 y4
  have z0 := hdv.cpu.cellPc
  have z1 := hdv.cpu.cellReg a ha
  have z2 := hdv.cpu.cellReg b hb
  have z3 := hdv.cpu.thaw 16
  clear hdv hR2 hB2 hq1 hq2
  go_wp2_with fail
  refine (branches H3.out.cpu 45 d a b imm ha hb).mono ?_
  rintro e w6 ⟨rfl, hb6⟩
  have hbr : brV r ⟨45, d, a, b, imm⟩ = true := hcd
  rw [hbr]
  have hdv := H3.out.below hb6
  obtain ⟨y0, y1, y2, y3, y4⟩ := hdv.cells
  simp only at y0 y1 y2 y3 y4
  have z0 := hdv.cpu.cellPc
  have z3 := hdv.cpu.thaw 16
  obtain ⟨c0, c1, c2, f0, f1, f2⟩ := hdv.rs.cells
  have hne : w.heap.size ≠ db := by have := hdv.nb.2.2.1; omega
  have H6 := Lib.hid hdv
  clear hdv hb6 hbr
  go_wp2
  refine bodyPost_ret (v := stopV 0 0 0) (by simp [results, Tryz.results29, go_sem, stopV, *]) rfl ?_
  exact HPQ.out _ _ _ 0 0 0 _ _ (H6.out.setC (H6.out.cpu.setPc imm i0 i1) (Mod.setCell (F := fun j => j = db) (Mod.refl _ _) _ (.inl rfl) _)) rfl
set_option maxRecDepth 100000 in
set_option maxHeartbeats 2000000 in
theorem stepD_bltu_false (hc : Cpu 107 w db r pc) (hr : Rsp w rb lv R) (hn : ¬ Rsp.foot rb lv R db) (hf : Sp.fitsB (rpgs R) pc 8 4 = true) (hd : Ins.decB (strOfNums (Sp.getL (rpgs R) pc 8)) = true)
    (d a b : Nat) (imm : Int) (hx : Ins.decI (strOfNums (Sp.getL (rpgs R) pc 8)) = ⟨45, d, a, b, imm⟩) (i0 : 0 ≤ imm) (i1 : imm ≤ 4294967295) (hd16 : d < 16) (ha : a < 16) (hb : b < 16) (hcd : (decide (rg r a < rg r b)) = false) :
    Calls Tryz.prog 29 #[.pointer (some ⟨db, 0, none⟩), .pointer (some ⟨rb, 0, none⟩)] w (SdStPost w db rb lv R (goes (rpgs R) r (next pc))) := by
  have hva := rg_bd hc.regs a
  have hvb := rg_bd hc.regs b
  have ha1 : (a : Int) < 16 := by omega
  have hb1 : (b : Int) < 16 := by omega
  have hE := fetch_yes hf
  have hbW : Below w.heap.size w (w.alloc (.cells #[.int .u8 0, .int .u32 0, .int .i64 0] 29)) := (Below.refl _ _).alloc (Nat.le_refl _) _
  have hcp := (hc.below hbW).cellPc
  have hF := Rs.get_any (hr.same hbW) pc 8 4 hc.p0 hc.p1 (by omega) (by omega)
  rw [hE.1, hE.2] at hF
  have HF := Lib.hid hF
  have HB := Lib.hid hbW
  have HR := Lib.hid (⟨heap_alloc_new w _⟩ : RsBox (w.alloc (.cells #[.int .u8 0, .int .u32 0, .int .i64 0] 29)) w.heap.size)
  have HD : Hid (∀ W, Calls Tryz.prog 68 #[.string (strOfNums (Sp.getL (rpgs R) pc 8))] W fun e w' => e = .returned (.tuple #[Ins.val ⟨45, d, a, b, imm⟩, .int .i64 0]) ∧ Below W.heap.size W w') := Lib.hid fun W => by
    have h := Ins.decodeR (strOfNums (Sp.getL (rpgs R) pc 8)) (by rw [size_strOfNums, Sp.getL_length]; omega) W
    unfold Ins.decX Ins.decE at h
    rw [hd, hx] at h
    exact h
  have HDV : Hid (∀ w2, Below w.heap.size w w2 → RsBox w2 w.heap.size → DV w (w2.alloc (.cells (insCells ⟨45, d, a, b, imm⟩) 91)) w2.heap.size ⟨45, d, a, b, imm⟩ db rb lv R R r pc) := Lib.hid fun w2 hb2 hr2 => by
    have hb3 : Below w2.heap.size w2 (w2.alloc (.cells (insCells ⟨45, d, a, b, imm⟩) 91)) := (Below.refl _ _).alloc (Nat.le_refl _) _
    have hl := lt_of_block hr2.blk
    have hdl := hc.lt
    exact ⟨(hc.below hb2).below hb3, (hr.same hb2).same hb3, hn, heap_alloc_new w2 _, hr2.frame (hb3.block _ hl), (Mod.of_below hb2 _).same (Mod.of_below hb3 _), fun _ g => .inl g, by omega, fun k hk => by have := hr.lt hk; omega, by omega, by omega⟩
  have HPQ : Hid (∀ V bx R' k n y r' pc', DV w V bx ⟨45, d, a, b, imm⟩ db rb lv R R' r' pc' → (⟨k, n, y, r', pc', rpgs R'⟩ : Out) = (goes (rpgs R) r (next pc)) → SdStPost w db rb lv R (goes (rpgs R) r (next pc)) (.returned (stopV k n y)) (((V.setCell ⟨w.heap.size, 0, none⟩ (.int .u8 k)).setCell ⟨w.heap.size, 1, none⟩ (.int .u32 n)).setCell ⟨w.heap.size, 2, none⟩ (.int .i64 y))) := Lib.hid fun V bx R' k n y r' pc' h e => by rw [← e]; exact h.fin k n y
  generalize SdStPost w db rb lv R (goes (rpgs R) r (next pc)) = PQ at *
  generalize strOfNums (Sp.getL (rpgs R) pc 8) = S at *
  have hnx : IntKind.u32.wrap (pc + 8) = next pc := by rw [IntKind.wrap_u32']; rfl
  clear hn hbW hE hf hF hd hx
  unfold Ins.val at HD
  simp only at HD
  go_enter Tryz.func29, Tryz.ntmps29
  go_wp2_with fail
  refine HF.out.mono ?_
  rintro e w1 ⟨rfl, hb1⟩
  have HR1 := Lib.hid (HR.out.frame (hb1.block _ (by simp)))
  have HB1 := Lib.hid (below_th HB.out hb1)
  clear hb1
  go_wp2_with fail
  refine (HD.out _).mono ?_
  rintro e w2 ⟨rfl, hb2⟩
  have hs1 := HR1.out.blk
  have hR2 := HR1.out.frame (hb2.block _ (lt_of_block hs1))
  have hB2 := below_th HB1.out hb2
  have hdv := HDV.out w2 hB2 hR2
  have hq1 := (hc.below hB2).cellPc
  have hq2 : db < w2.heap.size := (hc.below hB2).lt
  unfold insCells at hdv
  simp only at hdv
  clear hb2 hs1 HDV HD HF HR HR1 HB HB1
  generalize hW3 : w2.alloc (.cells #[.int .u8 45, .int .u8 d, .int .u8 a, .int .u8 b, .int .u32 imm] 91) = w3 at *
  have H3 := Lib.hid hdv
  obtain ⟨y0, y1, y2, y3, y4⟩ := hdv.cells
  simp only at y0 y1 y2 y3 y4
  have z0 := hdv.cpu.cellPc
  have z1 := hdv.cpu.cellReg a ha
  have z2 := hdv.cpu.cellReg b hb
  have z3 := hdv.cpu.thaw 16
  clear hdv hR2 hB2 hq1 hq2
  go_wp2_with fail
  refine (branches H3.out.cpu 45 d a b imm ha hb).mono ?_
  rintro e w6 ⟨rfl, hb6⟩
  have hbr : brV r ⟨45, d, a, b, imm⟩ = false := hcd
  rw [hbr]
  have hdv := H3.out.below hb6
  obtain ⟨y0, y1, y2, y3, y4⟩ := hdv.cells
  simp only at y0 y1 y2 y3 y4
  have z0 := hdv.cpu.cellPc
  have z3 := hdv.cpu.thaw 16
  obtain ⟨c0, c1, c2, f0, f1, f2⟩ := hdv.rs.cells
  have hne : w.heap.size ≠ db := by have := hdv.nb.2.2.1; omega
  have H6 := Lib.hid hdv
  clear hdv hb6 hbr
  go_wp2
  refine bodyPost_ret (v := stopV 0 0 0) (by simp [results, Tryz.results29, go_sem, stopV, *]) rfl ?_
  exact HPQ.out _ _ _ 0 0 0 _ _ (H6.out.setC (H6.out.cpu.setPc (next pc) (next_bd pc).1 (next_bd pc).2) (Mod.setCell (F := fun j => j = db) (Mod.refl _ _) _ (.inl rfl) _)) rfl
set_option maxRecDepth 100000 in
set_option maxHeartbeats 2000000 in
theorem stepD_bgeu_true (hc : Cpu 107 w db r pc) (hr : Rsp w rb lv R) (hn : ¬ Rsp.foot rb lv R db) (hf : Sp.fitsB (rpgs R) pc 8 4 = true) (hd : Ins.decB (strOfNums (Sp.getL (rpgs R) pc 8)) = true)
    (d a b : Nat) (imm : Int) (hx : Ins.decI (strOfNums (Sp.getL (rpgs R) pc 8)) = ⟨46, d, a, b, imm⟩) (i0 : 0 ≤ imm) (i1 : imm ≤ 4294967295) (hd16 : d < 16) (ha : a < 16) (hb : b < 16) (hcd : (decide (rg r b ≤ rg r a)) = true) :
    Calls Tryz.prog 29 #[.pointer (some ⟨db, 0, none⟩), .pointer (some ⟨rb, 0, none⟩)] w (SdStPost w db rb lv R (goes (rpgs R) r imm)) := by
  have hva := rg_bd hc.regs a
  have hvb := rg_bd hc.regs b
  have ha1 : (a : Int) < 16 := by omega
  have hb1 : (b : Int) < 16 := by omega
  have hE := fetch_yes hf
  have hbW : Below w.heap.size w (w.alloc (.cells #[.int .u8 0, .int .u32 0, .int .i64 0] 29)) := (Below.refl _ _).alloc (Nat.le_refl _) _
  have hcp := (hc.below hbW).cellPc
  have hF := Rs.get_any (hr.same hbW) pc 8 4 hc.p0 hc.p1 (by omega) (by omega)
  rw [hE.1, hE.2] at hF
  have HF := Lib.hid hF
  have HB := Lib.hid hbW
  have HR := Lib.hid (⟨heap_alloc_new w _⟩ : RsBox (w.alloc (.cells #[.int .u8 0, .int .u32 0, .int .i64 0] 29)) w.heap.size)
  have HD : Hid (∀ W, Calls Tryz.prog 68 #[.string (strOfNums (Sp.getL (rpgs R) pc 8))] W fun e w' => e = .returned (.tuple #[Ins.val ⟨46, d, a, b, imm⟩, .int .i64 0]) ∧ Below W.heap.size W w') := Lib.hid fun W => by
    have h := Ins.decodeR (strOfNums (Sp.getL (rpgs R) pc 8)) (by rw [size_strOfNums, Sp.getL_length]; omega) W
    unfold Ins.decX Ins.decE at h
    rw [hd, hx] at h
    exact h
  have HDV : Hid (∀ w2, Below w.heap.size w w2 → RsBox w2 w.heap.size → DV w (w2.alloc (.cells (insCells ⟨46, d, a, b, imm⟩) 91)) w2.heap.size ⟨46, d, a, b, imm⟩ db rb lv R R r pc) := Lib.hid fun w2 hb2 hr2 => by
    have hb3 : Below w2.heap.size w2 (w2.alloc (.cells (insCells ⟨46, d, a, b, imm⟩) 91)) := (Below.refl _ _).alloc (Nat.le_refl _) _
    have hl := lt_of_block hr2.blk
    have hdl := hc.lt
    exact ⟨(hc.below hb2).below hb3, (hr.same hb2).same hb3, hn, heap_alloc_new w2 _, hr2.frame (hb3.block _ hl), (Mod.of_below hb2 _).same (Mod.of_below hb3 _), fun _ g => .inl g, by omega, fun k hk => by have := hr.lt hk; omega, by omega, by omega⟩
  have HPQ : Hid (∀ V bx R' k n y r' pc', DV w V bx ⟨46, d, a, b, imm⟩ db rb lv R R' r' pc' → (⟨k, n, y, r', pc', rpgs R'⟩ : Out) = (goes (rpgs R) r imm) → SdStPost w db rb lv R (goes (rpgs R) r imm) (.returned (stopV k n y)) (((V.setCell ⟨w.heap.size, 0, none⟩ (.int .u8 k)).setCell ⟨w.heap.size, 1, none⟩ (.int .u32 n)).setCell ⟨w.heap.size, 2, none⟩ (.int .i64 y))) := Lib.hid fun V bx R' k n y r' pc' h e => by rw [← e]; exact h.fin k n y
  generalize SdStPost w db rb lv R (goes (rpgs R) r imm) = PQ at *
  generalize strOfNums (Sp.getL (rpgs R) pc 8) = S at *
  have hnx : IntKind.u32.wrap (pc + 8) = next pc := by rw [IntKind.wrap_u32']; rfl
  clear hn hbW hE hf hF hd hx
  unfold Ins.val at HD
  simp only at HD
  go_enter Tryz.func29, Tryz.ntmps29
  go_wp2_with fail
  refine HF.out.mono ?_
  rintro e w1 ⟨rfl, hb1⟩
  have HR1 := Lib.hid (HR.out.frame (hb1.block _ (by simp)))
  have HB1 := Lib.hid (below_th HB.out hb1)
  clear hb1
  go_wp2_with fail
  refine (HD.out _).mono ?_
  rintro e w2 ⟨rfl, hb2⟩
  have hs1 := HR1.out.blk
  have hR2 := HR1.out.frame (hb2.block _ (lt_of_block hs1))
  have hB2 := below_th HB1.out hb2
  have hdv := HDV.out w2 hB2 hR2
  have hq1 := (hc.below hB2).cellPc
  have hq2 : db < w2.heap.size := (hc.below hB2).lt
  unfold insCells at hdv
  simp only at hdv
  clear hb2 hs1 HDV HD HF HR HR1 HB HB1
  generalize hW3 : w2.alloc (.cells #[.int .u8 46, .int .u8 d, .int .u8 a, .int .u8 b, .int .u32 imm] 91) = w3 at *
  have H3 := Lib.hid hdv
  obtain ⟨y0, y1, y2, y3, y4⟩ := hdv.cells
  simp only at y0 y1 y2 y3 y4
  have z0 := hdv.cpu.cellPc
  have z1 := hdv.cpu.cellReg a ha
  have z2 := hdv.cpu.cellReg b hb
  have z3 := hdv.cpu.thaw 16
  clear hdv hR2 hB2 hq1 hq2
  go_wp2_with fail
  refine (branches H3.out.cpu 46 d a b imm ha hb).mono ?_
  rintro e w6 ⟨rfl, hb6⟩
  have hbr : brV r ⟨46, d, a, b, imm⟩ = true := hcd
  rw [hbr]
  have hdv := H3.out.below hb6
  obtain ⟨y0, y1, y2, y3, y4⟩ := hdv.cells
  simp only at y0 y1 y2 y3 y4
  have z0 := hdv.cpu.cellPc
  have z3 := hdv.cpu.thaw 16
  obtain ⟨c0, c1, c2, f0, f1, f2⟩ := hdv.rs.cells
  have hne : w.heap.size ≠ db := by have := hdv.nb.2.2.1; omega
  have H6 := Lib.hid hdv
  clear hdv hb6 hbr
  go_wp2
  refine bodyPost_ret (v := stopV 0 0 0) (by simp [results, Tryz.results29, go_sem, stopV, *]) rfl ?_
  exact HPQ.out _ _ _ 0 0 0 _ _ (H6.out.setC (H6.out.cpu.setPc imm i0 i1) (Mod.setCell (F := fun j => j = db) (Mod.refl _ _) _ (.inl rfl) _)) rfl
set_option maxRecDepth 100000 in
set_option maxHeartbeats 2000000 in
theorem stepD_bgeu_false (hc : Cpu 107 w db r pc) (hr : Rsp w rb lv R) (hn : ¬ Rsp.foot rb lv R db) (hf : Sp.fitsB (rpgs R) pc 8 4 = true) (hd : Ins.decB (strOfNums (Sp.getL (rpgs R) pc 8)) = true)
    (d a b : Nat) (imm : Int) (hx : Ins.decI (strOfNums (Sp.getL (rpgs R) pc 8)) = ⟨46, d, a, b, imm⟩) (i0 : 0 ≤ imm) (i1 : imm ≤ 4294967295) (hd16 : d < 16) (ha : a < 16) (hb : b < 16) (hcd : (decide (rg r b ≤ rg r a)) = false) :
    Calls Tryz.prog 29 #[.pointer (some ⟨db, 0, none⟩), .pointer (some ⟨rb, 0, none⟩)] w (SdStPost w db rb lv R (goes (rpgs R) r (next pc))) := by
  have hva := rg_bd hc.regs a
  have hvb := rg_bd hc.regs b
  have ha1 : (a : Int) < 16 := by omega
  have hb1 : (b : Int) < 16 := by omega
  have hE := fetch_yes hf
  have hbW : Below w.heap.size w (w.alloc (.cells #[.int .u8 0, .int .u32 0, .int .i64 0] 29)) := (Below.refl _ _).alloc (Nat.le_refl _) _
  have hcp := (hc.below hbW).cellPc
  have hF := Rs.get_any (hr.same hbW) pc 8 4 hc.p0 hc.p1 (by omega) (by omega)
  rw [hE.1, hE.2] at hF
  have HF := Lib.hid hF
  have HB := Lib.hid hbW
  have HR := Lib.hid (⟨heap_alloc_new w _⟩ : RsBox (w.alloc (.cells #[.int .u8 0, .int .u32 0, .int .i64 0] 29)) w.heap.size)
  have HD : Hid (∀ W, Calls Tryz.prog 68 #[.string (strOfNums (Sp.getL (rpgs R) pc 8))] W fun e w' => e = .returned (.tuple #[Ins.val ⟨46, d, a, b, imm⟩, .int .i64 0]) ∧ Below W.heap.size W w') := Lib.hid fun W => by
    have h := Ins.decodeR (strOfNums (Sp.getL (rpgs R) pc 8)) (by rw [size_strOfNums, Sp.getL_length]; omega) W
    unfold Ins.decX Ins.decE at h
    rw [hd, hx] at h
    exact h
  have HDV : Hid (∀ w2, Below w.heap.size w w2 → RsBox w2 w.heap.size → DV w (w2.alloc (.cells (insCells ⟨46, d, a, b, imm⟩) 91)) w2.heap.size ⟨46, d, a, b, imm⟩ db rb lv R R r pc) := Lib.hid fun w2 hb2 hr2 => by
    have hb3 : Below w2.heap.size w2 (w2.alloc (.cells (insCells ⟨46, d, a, b, imm⟩) 91)) := (Below.refl _ _).alloc (Nat.le_refl _) _
    have hl := lt_of_block hr2.blk
    have hdl := hc.lt
    exact ⟨(hc.below hb2).below hb3, (hr.same hb2).same hb3, hn, heap_alloc_new w2 _, hr2.frame (hb3.block _ hl), (Mod.of_below hb2 _).same (Mod.of_below hb3 _), fun _ g => .inl g, by omega, fun k hk => by have := hr.lt hk; omega, by omega, by omega⟩
  have HPQ : Hid (∀ V bx R' k n y r' pc', DV w V bx ⟨46, d, a, b, imm⟩ db rb lv R R' r' pc' → (⟨k, n, y, r', pc', rpgs R'⟩ : Out) = (goes (rpgs R) r (next pc)) → SdStPost w db rb lv R (goes (rpgs R) r (next pc)) (.returned (stopV k n y)) (((V.setCell ⟨w.heap.size, 0, none⟩ (.int .u8 k)).setCell ⟨w.heap.size, 1, none⟩ (.int .u32 n)).setCell ⟨w.heap.size, 2, none⟩ (.int .i64 y))) := Lib.hid fun V bx R' k n y r' pc' h e => by rw [← e]; exact h.fin k n y
  generalize SdStPost w db rb lv R (goes (rpgs R) r (next pc)) = PQ at *
  generalize strOfNums (Sp.getL (rpgs R) pc 8) = S at *
  have hnx : IntKind.u32.wrap (pc + 8) = next pc := by rw [IntKind.wrap_u32']; rfl
  clear hn hbW hE hf hF hd hx
  unfold Ins.val at HD
  simp only at HD
  go_enter Tryz.func29, Tryz.ntmps29
  go_wp2_with fail
  refine HF.out.mono ?_
  rintro e w1 ⟨rfl, hb1⟩
  have HR1 := Lib.hid (HR.out.frame (hb1.block _ (by simp)))
  have HB1 := Lib.hid (below_th HB.out hb1)
  clear hb1
  go_wp2_with fail
  refine (HD.out _).mono ?_
  rintro e w2 ⟨rfl, hb2⟩
  have hs1 := HR1.out.blk
  have hR2 := HR1.out.frame (hb2.block _ (lt_of_block hs1))
  have hB2 := below_th HB1.out hb2
  have hdv := HDV.out w2 hB2 hR2
  have hq1 := (hc.below hB2).cellPc
  have hq2 : db < w2.heap.size := (hc.below hB2).lt
  unfold insCells at hdv
  simp only at hdv
  clear hb2 hs1 HDV HD HF HR HR1 HB HB1
  generalize hW3 : w2.alloc (.cells #[.int .u8 46, .int .u8 d, .int .u8 a, .int .u8 b, .int .u32 imm] 91) = w3 at *
  have H3 := Lib.hid hdv
  obtain ⟨y0, y1, y2, y3, y4⟩ := hdv.cells
  simp only at y0 y1 y2 y3 y4
  have z0 := hdv.cpu.cellPc
  have z1 := hdv.cpu.cellReg a ha
  have z2 := hdv.cpu.cellReg b hb
  have z3 := hdv.cpu.thaw 16
  clear hdv hR2 hB2 hq1 hq2
  go_wp2_with fail
  refine (branches H3.out.cpu 46 d a b imm ha hb).mono ?_
  rintro e w6 ⟨rfl, hb6⟩
  have hbr : brV r ⟨46, d, a, b, imm⟩ = false := hcd
  rw [hbr]
  have hdv := H3.out.below hb6
  obtain ⟨y0, y1, y2, y3, y4⟩ := hdv.cells
  simp only at y0 y1 y2 y3 y4
  have z0 := hdv.cpu.cellPc
  have z3 := hdv.cpu.thaw 16
  obtain ⟨c0, c1, c2, f0, f1, f2⟩ := hdv.rs.cells
  have hne : w.heap.size ≠ db := by have := hdv.nb.2.2.1; omega
  have H6 := Lib.hid hdv
  clear hdv hb6 hbr
  go_wp2
  refine bodyPost_ret (v := stopV 0 0 0) (by simp [results, Tryz.results29, go_sem, stopV, *]) rfl ?_
  exact HPQ.out _ _ _ 0 0 0 _ _ (H6.out.setC (H6.out.cpu.setPc (next pc) (next_bd pc).1 (next_bd pc).2) (Mod.setCell (F := fun j => j = db) (Mod.refl _ _) _ (.inl rfl) _)) rfl
set_option maxRecDepth 100000 in
set_option maxHeartbeats 2000000 in
theorem stepD_jr (hc : Cpu 107 w db r pc) (hr : Rsp w rb lv R) (hn : ¬ Rsp.foot rb lv R db) (hf : Sp.fitsB (rpgs R) pc 8 4 = true) (hd : Ins.decB (strOfNums (Sp.getL (rpgs R) pc 8)) = true)
    (d a b : Nat) (imm : Int) (hx : Ins.decI (strOfNums (Sp.getL (rpgs R) pc 8)) = ⟨42, d, a, b, imm⟩) (i0 : 0 ≤ imm) (i1 : imm ≤ 4294967295) (hd16 : d < 16) (ha : a < 16) (hb : b < 16) :
    Calls Tryz.prog 29 #[.pointer (some ⟨db, 0, none⟩), .pointer (some ⟨rb, 0, none⟩)] w (SdStPost w db rb lv R (goes (rpgs R) r (rg r a))) := by
  have hva := rg_bd hc.regs a
  have hvb := rg_bd hc.regs b
  have ha1 : (a : Int) < 16 := by omega
  have hb1 : (b : Int) < 16 := by omega
  have hE := fetch_yes hf
  have hbW : Below w.heap.size w (w.alloc (.cells #[.int .u8 0, .int .u32 0, .int .i64 0] 29)) := (Below.refl _ _).alloc (Nat.le_refl _) _
  have hcp := (hc.below hbW).cellPc
  have hF := Rs.get_any (hr.same hbW) pc 8 4 hc.p0 hc.p1 (by omega) (by omega)
  rw [hE.1, hE.2] at hF
  have HF := Lib.hid hF
  have HB := Lib.hid hbW
  have HR := Lib.hid (⟨heap_alloc_new w _⟩ : RsBox (w.alloc (.cells #[.int .u8 0, .int .u32 0, .int .i64 0] 29)) w.heap.size)
  have HD : Hid (∀ W, Calls Tryz.prog 68 #[.string (strOfNums (Sp.getL (rpgs R) pc 8))] W fun e w' => e = .returned (.tuple #[Ins.val ⟨42, d, a, b, imm⟩, .int .i64 0]) ∧ Below W.heap.size W w') := Lib.hid fun W => by
    have h := Ins.decodeR (strOfNums (Sp.getL (rpgs R) pc 8)) (by rw [size_strOfNums, Sp.getL_length]; omega) W
    unfold Ins.decX Ins.decE at h
    rw [hd, hx] at h
    exact h
  have HDV : Hid (∀ w2, Below w.heap.size w w2 → RsBox w2 w.heap.size → DV w (w2.alloc (.cells (insCells ⟨42, d, a, b, imm⟩) 91)) w2.heap.size ⟨42, d, a, b, imm⟩ db rb lv R R r pc) := Lib.hid fun w2 hb2 hr2 => by
    have hb3 : Below w2.heap.size w2 (w2.alloc (.cells (insCells ⟨42, d, a, b, imm⟩) 91)) := (Below.refl _ _).alloc (Nat.le_refl _) _
    have hl := lt_of_block hr2.blk
    have hdl := hc.lt
    exact ⟨(hc.below hb2).below hb3, (hr.same hb2).same hb3, hn, heap_alloc_new w2 _, hr2.frame (hb3.block _ hl), (Mod.of_below hb2 _).same (Mod.of_below hb3 _), fun _ g => .inl g, by omega, fun k hk => by have := hr.lt hk; omega, by omega, by omega⟩
  have HPQ : Hid (∀ V bx R' k n y r' pc', DV w V bx ⟨42, d, a, b, imm⟩ db rb lv R R' r' pc' → (⟨k, n, y, r', pc', rpgs R'⟩ : Out) = (goes (rpgs R) r (rg r a)) → SdStPost w db rb lv R (goes (rpgs R) r (rg r a)) (.returned (stopV k n y)) (((V.setCell ⟨w.heap.size, 0, none⟩ (.int .u8 k)).setCell ⟨w.heap.size, 1, none⟩ (.int .u32 n)).setCell ⟨w.heap.size, 2, none⟩ (.int .i64 y))) := Lib.hid fun V bx R' k n y r' pc' h e => by rw [← e]; exact h.fin k n y
  generalize SdStPost w db rb lv R (goes (rpgs R) r (rg r a)) = PQ at *
  generalize strOfNums (Sp.getL (rpgs R) pc 8) = S at *
  have hnx : IntKind.u32.wrap (pc + 8) = next pc := by rw [IntKind.wrap_u32']; rfl
  clear hn hbW hE hf hF hd hx
  unfold Ins.val at HD
  simp only at HD
  go_enter Tryz.func29, Tryz.ntmps29
  go_wp2_with fail
  refine HF.out.mono ?_
  rintro e w1 ⟨rfl, hb1⟩
  have HR1 := Lib.hid (HR.out.frame (hb1.block _ (by simp)))
  have HB1 := Lib.hid (below_th HB.out hb1)
  clear hb1
  go_wp2_with fail
  refine (HD.out _).mono ?_
  rintro e w2 ⟨rfl, hb2⟩
  have hs1 := HR1.out.blk
  have hR2 := HR1.out.frame (hb2.block _ (lt_of_block hs1))
  have hB2 := below_th HB1.out hb2
  have hdv := HDV.out w2 hB2 hR2
  have hq1 := (hc.below hB2).cellPc
  have hq2 : db < w2.heap.size := (hc.below hB2).lt
  unfold insCells at hdv
  simp only at hdv
  clear hb2 hs1 HDV HD HF HR HR1 HB HB1
  generalize hW3 : w2.alloc (.cells #[.int .u8 42, .int .u8 d, .int .u8 a, .int .u8 b, .int .u32 imm] 91) = w3 at *
  have H3 := Lib.hid hdv
  obtain ⟨y0, y1, y2, y3, y4⟩ := hdv.cells
  simp only at y0 y1 y2 y3 y4
  have z0 := hdv.cpu.cellPc
  have z1 := hdv.cpu.cellReg a ha
  have z2 := hdv.cpu.cellReg b hb
  have z3 := hdv.cpu.thaw 16
  clear hdv hR2 hB2 hq1 hq2
  obtain ⟨c0, c1, c2, f0, f1, f2⟩ := H3.out.rs.cells
  have hne : w.heap.size ≠ db := by have := H3.out.nb.2.2.1; omega
  have H6 := Lib.hid (H3.out.below (Below.refl _ _).drew)
  go_wp2_with fail
  go_region
  go_wp2
  refine bodyPost_ret (v := stopV 0 0 0) (by simp [results, Tryz.results29, go_sem, stopV, *]) rfl ?_
  exact HPQ.out _ _ _ 0 0 0 _ _ (H6.out.setC (H6.out.cpu.setPc (rg r a) hva.1 hva.2) (Mod.setCell (F := fun j => j = db) (Mod.refl _ _) _ (.inl rfl) _)) rfl
set_option maxRecDepth 100000 in
set_option maxHeartbeats 2000000 in
theorem stepD_sys (hc : Cpu 107 w db r pc) (hr : Rsp w rb lv R) (hn : ¬ Rsp.foot rb lv R db) (hf : Sp.fitsB (rpgs R) pc 8 4 = true) (hd : Ins.decB (strOfNums (Sp.getL (rpgs R) pc 8)) = true)
    (d a b : Nat) (imm : Int) (hx : Ins.decI (strOfNums (Sp.getL (rpgs R) pc 8)) = ⟨50, d, a, b, imm⟩) (i0 : 0 ≤ imm) (i1 : imm ≤ 4294967295) (hd16 : d < 16) (ha : a < 16) (hb : b < 16) :
    Calls Tryz.prog 29 #[.pointer (some ⟨db, 0, none⟩), .pointer (some ⟨rb, 0, none⟩)] w (SdStPost w db rb lv R ⟨1, imm, 0, r, next pc, rpgs R⟩) := by
  have hva := rg_bd hc.regs a
  have hvb := rg_bd hc.regs b
  have ha1 : (a : Int) < 16 := by omega
  have hb1 : (b : Int) < 16 := by omega
  have hE := fetch_yes hf
  have hbW : Below w.heap.size w (w.alloc (.cells #[.int .u8 0, .int .u32 0, .int .i64 0] 29)) := (Below.refl _ _).alloc (Nat.le_refl _) _
  have hcp := (hc.below hbW).cellPc
  have hF := Rs.get_any (hr.same hbW) pc 8 4 hc.p0 hc.p1 (by omega) (by omega)
  rw [hE.1, hE.2] at hF
  have HF := Lib.hid hF
  have HB := Lib.hid hbW
  have HR := Lib.hid (⟨heap_alloc_new w _⟩ : RsBox (w.alloc (.cells #[.int .u8 0, .int .u32 0, .int .i64 0] 29)) w.heap.size)
  have HD : Hid (∀ W, Calls Tryz.prog 68 #[.string (strOfNums (Sp.getL (rpgs R) pc 8))] W fun e w' => e = .returned (.tuple #[Ins.val ⟨50, d, a, b, imm⟩, .int .i64 0]) ∧ Below W.heap.size W w') := Lib.hid fun W => by
    have h := Ins.decodeR (strOfNums (Sp.getL (rpgs R) pc 8)) (by rw [size_strOfNums, Sp.getL_length]; omega) W
    unfold Ins.decX Ins.decE at h
    rw [hd, hx] at h
    exact h
  have HDV : Hid (∀ w2, Below w.heap.size w w2 → RsBox w2 w.heap.size → DV w (w2.alloc (.cells (insCells ⟨50, d, a, b, imm⟩) 91)) w2.heap.size ⟨50, d, a, b, imm⟩ db rb lv R R r pc) := Lib.hid fun w2 hb2 hr2 => by
    have hb3 : Below w2.heap.size w2 (w2.alloc (.cells (insCells ⟨50, d, a, b, imm⟩) 91)) := (Below.refl _ _).alloc (Nat.le_refl _) _
    have hl := lt_of_block hr2.blk
    have hdl := hc.lt
    exact ⟨(hc.below hb2).below hb3, (hr.same hb2).same hb3, hn, heap_alloc_new w2 _, hr2.frame (hb3.block _ hl), (Mod.of_below hb2 _).same (Mod.of_below hb3 _), fun _ g => .inl g, by omega, fun k hk => by have := hr.lt hk; omega, by omega, by omega⟩
  have HPQ : Hid (∀ V bx R' k n y r' pc', DV w V bx ⟨50, d, a, b, imm⟩ db rb lv R R' r' pc' → (⟨k, n, y, r', pc', rpgs R'⟩ : Out) = ⟨1, imm, 0, r, next pc, rpgs R⟩ → SdStPost w db rb lv R ⟨1, imm, 0, r, next pc, rpgs R⟩ (.returned (stopV k n y)) (((V.setCell ⟨w.heap.size, 0, none⟩ (.int .u8 k)).setCell ⟨w.heap.size, 1, none⟩ (.int .u32 n)).setCell ⟨w.heap.size, 2, none⟩ (.int .i64 y))) := Lib.hid fun V bx R' k n y r' pc' h e => by rw [← e]; exact h.fin k n y
  generalize SdStPost w db rb lv R ⟨1, imm, 0, r, next pc, rpgs R⟩ = PQ at *
  generalize strOfNums (Sp.getL (rpgs R) pc 8) = S at *
  have hnx : IntKind.u32.wrap (pc + 8) = next pc := by rw [IntKind.wrap_u32']; rfl
  clear hn hbW hE hf hF hd hx
  unfold Ins.val at HD
  simp only at HD
  go_enter Tryz.func29, Tryz.ntmps29
  go_wp2_with fail
  refine HF.out.mono ?_
  rintro e w1 ⟨rfl, hb1⟩
  have HR1 := Lib.hid (HR.out.frame (hb1.block _ (by simp)))
  have HB1 := Lib.hid (below_th HB.out hb1)
  clear hb1
  go_wp2_with fail
  refine (HD.out _).mono ?_
  rintro e w2 ⟨rfl, hb2⟩
  have hs1 := HR1.out.blk
  have hR2 := HR1.out.frame (hb2.block _ (lt_of_block hs1))
  have hB2 := below_th HB1.out hb2
  have hdv := HDV.out w2 hB2 hR2
  have hq1 := (hc.below hB2).cellPc
  have hq2 : db < w2.heap.size := (hc.below hB2).lt
  unfold insCells at hdv
  simp only at hdv
  clear hb2 hs1 HDV HD HF HR HR1 HB HB1
  generalize hW3 : w2.alloc (.cells #[.int .u8 50, .int .u8 d, .int .u8 a, .int .u8 b, .int .u32 imm] 91) = w3 at *
  have H3 := Lib.hid hdv
  obtain ⟨y0, y1, y2, y3, y4⟩ := hdv.cells
  simp only at y0 y1 y2 y3 y4
  have z0 := hdv.cpu.cellPc
  have z1 := hdv.cpu.cellReg a ha
  have z2 := hdv.cpu.cellReg b hb
  have z3 := hdv.cpu.thaw 16
  clear hdv hR2 hB2 hq1 hq2
  obtain ⟨c0, c1, c2, f0, f1, f2⟩ := H3.out.rs.cells
  have hne : w.heap.size ≠ db := by have := H3.out.nb.2.2.1; omega
  have hbn : w2.heap.size ≠ db := H3.out.nb.1
  have H6 := Lib.hid H3.out
  go_wp2
  refine bodyPost_ret (v := stopV 1 imm 0) (by simp [results, Tryz.results29, go_sem, stopV, *]) rfl ?_
  exact HPQ.out _ _ _ 1 imm 0 _ _ (H6.out.setC (H6.out.cpu.setPc (next pc) (next_bd pc).1 (next_bd pc).2) (Mod.setCell (F := fun j => j = db) (Mod.refl _ _) _ (.inl rfl) _)) rfl
end
end Cp
end Go.Proofs.YtldmglodjafklaaGreat

