/- The walk of aediculeref06.Step at loads and stores; the step whole. -/
import Derived.Test.YtldmglodjafklaaGreatStep6B
namespace Go.Proofs.YtldmglodjafklaaGreat
open Go.RowKit Word
set_option linter.unusedVariables false
set_option linter.unusedSimpArgs false
namespace Cp
theorem DV.setR {w V V' : World} {bx : Nat} {x : Ins} {db rb : Nat} {lv : Value} {R0 R R' : List Rp} {r : List Int} {pc : Int} (h : DV w V bx x db rb lv R0 R r pc) (hc : Cpu 107 V' db r pc) (hs : RStep V V' rb lv R lv R') : DV w V' bx x db rb lv R0 R' r pc := by
  have hz := h.mod.size
  have hb := lt_of_block h.box
  have hl := lt_of_block h.rs.blk
  refine ⟨hc, hs.sp, fun g => ?_, (hs.mod.block _ hb (fun g => (h.nb.2.1 _ g).1 rfl)).trans h.box, h.rs.frame (hs.mod.block _ hl (fun g => (h.nb.2.1 _ g).2 rfl)), h.mod.trans hs.mod (fun i _ g => ?_), fun k hk => ?_, h.nb.1, fun k hk => ?_, h.nb.2.2⟩
  · rcases hs.foot _ g with q | q
    · exact h.nd q
    · have := h.cpu.lt; omega
  · rcases h.foot i g with q | q
    · exact .inl (.inr q)
    · exact .inr q
  · rcases hs.foot k hk with q | q
    · exact h.foot k q
    · exact .inr (Nat.le_trans hz q)
  · rcases hs.foot k hk with q | q
    · exact h.nb.2.1 k q
    · omega
section
variable {w : World} {db rb : Nat} {lv : Value} {R : List Rp} {r : List Int} {pc : Int}
set_option maxRecDepth 100000 in
set_option maxHeartbeats 2000000 in
theorem stepD_lb_yes (hc : Cpu 107 w db r pc) (hr : Rsp w rb lv R) (hn : ¬ Rsp.foot rb lv R db) (hf : Sp.fitsB (rpgs R) pc 8 4 = true) (hd : Ins.decB (strOfNums (Sp.getL (rpgs R) pc 8)) = true)
    (d a b : Nat) (imm : Int) (hx : Ins.decI (strOfNums (Sp.getL (rpgs R) pc 8)) = ⟨33, d, a, b, imm⟩) (i0 : 0 ≤ imm) (i1 : imm ≤ 4294967295) (hd16 : d < 16) (ha : a < 16) (hb : b < 16) (hfm : Sp.fitsB (rpgs R) ((rg r a + imm) % 4294967296) 1 1 = true) :
    Calls Tryz.prog 29 #[.pointer (some ⟨db, 0, none⟩), .pointer (some ⟨rb, 0, none⟩)] w (SdStPost w db rb lv R (goes (rpgs R) (putG r d (getV (Sp.getL (rpgs R) ((rg r a + imm) % 4294967296) 1))) (next pc))) := by
  have hva := rg_bd hc.regs a
  have hvb := rg_bd hc.regs b
  have ha1 : (a : Int) < 16 := by omega
  have hb1 : (b : Int) < 16 := by omega
  have HMem : Hid (∀ V, Cpu 107 V db r pc → Rsp V rb lv R → Calls Tryz.prog 71 #[.pointer (some ⟨db, 0, none⟩), .pointer (some ⟨rb, 0, none⟩), .agg #[.int .u8 33, .int .u8 d, .int .u8 a, .int .u8 b, .int .u32 imm]] V (LdPost V db (putG r d (getV (Sp.getL (rpgs R) ((rg r a + imm) % 4294967296) 1))) pc rb lv R 0)) := Lib.hid fun V g1 g2 => mem33_yes g1 g2 hn d a b imm i0 i1 hd16 ha hb hfm
  have hE := fetch_yes hf
  have hbW : Below w.heap.size w (w.alloc (.cells #[.int .u8 0, .int .u32 0, .int .i64 0] 29)) := (Below.refl _ _).alloc (Nat.le_refl _) _
  have hcp := (hc.below hbW).cellPc
  have hF := Rs.get_any (hr.same hbW) pc 8 4 hc.p0 hc.p1 (by omega) (by omega)
  rw [hE.1, hE.2] at hF
  have HF := Lib.hid hF
  have HB := Lib.hid hbW
  have HR := Lib.hid (⟨heap_alloc_new w _⟩ : RsBox (w.alloc (.cells #[.int .u8 0, .int .u32 0, .int .i64 0] 29)) w.heap.size)
  have HD : Hid (∀ W, Calls Tryz.prog 68 #[.string (strOfNums (Sp.getL (rpgs R) pc 8))] W fun e w' => e = .returned (.tuple #[Ins.val ⟨33, d, a, b, imm⟩, .int .i64 0]) ∧ Below W.heap.size W w') := Lib.hid fun W => by
    have h := Ins.decodeR (strOfNums (Sp.getL (rpgs R) pc 8)) (by rw [size_strOfNums, Sp.getL_length]; omega) W
    unfold Ins.decX Ins.decE at h
    rw [hd, hx] at h
    exact h
  have HDV : Hid (∀ w2, Below w.heap.size w w2 → RsBox w2 w.heap.size → DV w (w2.alloc (.cells (insCells ⟨33, d, a, b, imm⟩) 91)) w2.heap.size ⟨33, d, a, b, imm⟩ db rb lv R R r pc) := Lib.hid fun w2 hb2 hr2 => by
    have hb3 : Below w2.heap.size w2 (w2.alloc (.cells (insCells ⟨33, d, a, b, imm⟩) 91)) := (Below.refl _ _).alloc (Nat.le_refl _) _
    have hl := lt_of_block hr2.blk
    have hdl := hc.lt
    exact ⟨(hc.below hb2).below hb3, (hr.same hb2).same hb3, hn, heap_alloc_new w2 _, hr2.frame (hb3.block _ hl), (Mod.of_below hb2 _).same (Mod.of_below hb3 _), fun _ g => .inl g, by omega, fun k hk => by have := hr.lt hk; omega, by omega, by omega⟩
  have HPQ : Hid (∀ V bx R' k n y r' pc', DV w V bx ⟨33, d, a, b, imm⟩ db rb lv R R' r' pc' → (⟨k, n, y, r', pc', rpgs R'⟩ : Out) = (goes (rpgs R) (putG r d (getV (Sp.getL (rpgs R) ((rg r a + imm) % 4294967296) 1))) (next pc)) → SdStPost w db rb lv R (goes (rpgs R) (putG r d (getV (Sp.getL (rpgs R) ((rg r a + imm) % 4294967296) 1))) (next pc)) (.returned (stopV k n y)) (((V.setCell ⟨w.heap.size, 0, none⟩ (.int .u8 k)).setCell ⟨w.heap.size, 1, none⟩ (.int .u32 n)).setCell ⟨w.heap.size, 2, none⟩ (.int .i64 y))) := Lib.hid fun V bx R' k n y r' pc' h e => by rw [← e]; exact h.fin k n y
  generalize SdStPost w db rb lv R (goes (rpgs R) (putG r d (getV (Sp.getL (rpgs R) ((rg r a + imm) % 4294967296) 1))) (next pc)) = PQ at *
  generalize strOfNums (Sp.getL (rpgs R) pc 8) = S at *
  have hnx : IntKind.u32.wrap (pc + 8) = next pc := by rw [IntKind.wrap_u32']; rfl
  clear hn hbW hE hf hF hd hx
  unfold Ins.val at HD
  simp only at HD
  go_enter Tryz.func29, Tryz.ntmps29
  go_wp2_with fail
  refine HF.out.mono ?_
  rintro e w1 ⟨rfl, hb1⟩
  have HR1 := Lib.hid (HR.out.frame (hb1.block _ (by simp)))
  have HB1 := Lib.hid (below_th HB.out hb1)
  clear hb1
  go_wp2_with fail
  refine (HD.out _).mono ?_
  rintro e w2 ⟨rfl, hb2⟩
  have hs1 := HR1.out.blk
  have hR2 := HR1.out.frame (hb2.block _ (lt_of_block hs1))
  have hB2 := below_th HB1.out hb2
  have hdv := HDV.out w2 hB2 hR2
  have hq1 := (hc.below hB2).cellPc
  have hq2 : db < w2.heap.size := (hc.below hB2).lt
  unfold insCells at hdv
  simp only at hdv
  clear hb2 hs1 HDV HD HF HR HR1 HB HB1
  generalize hW3 : w2.alloc (.cells #[.int .u8 33, .int .u8 d, .int .u8 a, .int .u8 b, .int .u32 imm] 91) = w3 at *
  have H3 := Lib.hid hdv
  obtain ⟨y0, y1, y2, y3, y4⟩ := hdv.cells
  simp only at y0 y1 y2 y3 y4
  have z0 := hdv.cpu.cellPc
  have z1 := hdv.cpu.cellReg a ha
  have z2 := hdv.cpu.cellReg b hb
  have z3 := hdv.cpu.thaw 16
  clear hdv hR2 hB2 hq1 hq2
  go_wp2_with fail
  refine (HMem.out _ H3.out.cpu H3.out.rsp).mono ?_
  rintro e w5 ⟨rfl, hc5, hr5, hm5⟩
  have hdv := H3.out.setC hc5 hm5
  obtain ⟨y0, y1, y2, y3, y4⟩ := hdv.cells
  simp only at y0 y1 y2 y3 y4
  have H5 := Lib.hid hdv
  clear hdv hc5 hr5 hm5 H3 z0 z1 z2 z3 HMem
  go_wp2_with fail
  refine (branches H5.out.cpu 33 d a b imm ha hb).mono ?_
  rintro e w6 ⟨rfl, hb6⟩
  have hbr : brV (putG r d (getV (Sp.getL (rpgs R) ((rg r a + imm) % 4294967296) 1))) ⟨33, d, a, b, imm⟩ = false := brV_low (by omega)
  rw [hbr]
  have hdv := H5.out.below hb6
  obtain ⟨y0, y1, y2, y3, y4⟩ := hdv.cells
  simp only at y0 y1 y2 y3 y4
  have z0 := hdv.cpu.cellPc
  have z3 := hdv.cpu.thaw 16
  obtain ⟨c0, c1, c2, f0, f1, f2⟩ := hdv.rs.cells
  have hne : w.heap.size ≠ db := by have := hdv.nb.2.2.1; omega
  have H6 := Lib.hid hdv
  clear hdv hb6 hbr
  go_wp2
  refine bodyPost_ret (v := stopV 0 0 0) (by simp [results, Tryz.results29, go_sem, stopV, *]) rfl ?_
  exact HPQ.out _ _ _ 0 0 0 _ _ (H6.out.setC (H6.out.cpu.setPc (next pc) (next_bd pc).1 (next_bd pc).2) (Mod.setCell (F := fun j => j = db) (Mod.refl _ _) _ (.inl rfl) _)) rfl
set_option maxRecDepth 100000 in
set_option maxHeartbeats 2000000 in
theorem stepD_lb_no (hc : Cpu 107 w db r pc) (hr : Rsp w rb lv R) (hn : ¬ Rsp.foot rb lv R db) (hf : Sp.fitsB (rpgs R) pc 8 4 = true) (hd : Ins.decB (strOfNums (Sp.getL (rpgs R) pc 8)) = true)
    (d a b : Nat) (imm : Int) (hx : Ins.decI (strOfNums (Sp.getL (rpgs R) pc 8)) = ⟨33, d, a, b, imm⟩) (i0 : 0 ≤ imm) (i1 : imm ≤ 4294967295) (hd16 : d < 16) (ha : a < 16) (hb : b < 16) (hfm : Sp.fitsB (rpgs R) ((rg r a + imm) % 4294967296) 1 1 = false) :
    Calls Tryz.prog 29 #[.pointer (some ⟨db, 0, none⟩), .pointer (some ⟨rb, 0, none⟩)] w (SdStPost w db rb lv R (faults (rpgs R) r pc 50)) := by
  have hva := rg_bd hc.regs a
  have hvb := rg_bd hc.regs b
  have ha1 : (a : Int) < 16 := by omega
  have hb1 : (b : Int) < 16 := by omega
  have HMem : Hid (∀ V, Cpu 107 V db r pc → Rsp V rb lv R → Calls Tryz.prog 71 #[.pointer (some ⟨db, 0, none⟩), .pointer (some ⟨rb, 0, none⟩), .agg #[.int .u8 33, .int .u8 d, .int .u8 a, .int .u8 b, .int .u32 imm]] V (LdPost V db r pc rb lv R 50)) := Lib.hid fun V g1 g2 => mem33_no g1 g2 hn d a b imm i0 i1 hd16 ha hb hfm
  have hE := fetch_yes hf
  have hbW : Below w.heap.size w (w.alloc (.cells #[.int .u8 0, .int .u32 0, .int .i64 0] 29)) := (Below.refl _ _).alloc (Nat.le_refl _) _
  have hcp := (hc.below hbW).cellPc
  have hF := Rs.get_any (hr.same hbW) pc 8 4 hc.p0 hc.p1 (by omega) (by omega)
  rw [hE.1, hE.2] at hF
  have HF := Lib.hid hF
  have HB := Lib.hid hbW
  have HR := Lib.hid (⟨heap_alloc_new w _⟩ : RsBox (w.alloc (.cells #[.int .u8 0, .int .u32 0, .int .i64 0] 29)) w.heap.size)
  have HD : Hid (∀ W, Calls Tryz.prog 68 #[.string (strOfNums (Sp.getL (rpgs R) pc 8))] W fun e w' => e = .returned (.tuple #[Ins.val ⟨33, d, a, b, imm⟩, .int .i64 0]) ∧ Below W.heap.size W w') := Lib.hid fun W => by
    have h := Ins.decodeR (strOfNums (Sp.getL (rpgs R) pc 8)) (by rw [size_strOfNums, Sp.getL_length]; omega) W
    unfold Ins.decX Ins.decE at h
    rw [hd, hx] at h
    exact h
  have HDV : Hid (∀ w2, Below w.heap.size w w2 → RsBox w2 w.heap.size → DV w (w2.alloc (.cells (insCells ⟨33, d, a, b, imm⟩) 91)) w2.heap.size ⟨33, d, a, b, imm⟩ db rb lv R R r pc) := Lib.hid fun w2 hb2 hr2 => by
    have hb3 : Below w2.heap.size w2 (w2.alloc (.cells (insCells ⟨33, d, a, b, imm⟩) 91)) := (Below.refl _ _).alloc (Nat.le_refl _) _
    have hl := lt_of_block hr2.blk
    have hdl := hc.lt
    exact ⟨(hc.below hb2).below hb3, (hr.same hb2).same hb3, hn, heap_alloc_new w2 _, hr2.frame (hb3.block _ hl), (Mod.of_below hb2 _).same (Mod.of_below hb3 _), fun _ g => .inl g, by omega, fun k hk => by have := hr.lt hk; omega, by omega, by omega⟩
  have HPQ : Hid (∀ V bx R' k n y r' pc', DV w V bx ⟨33, d, a, b, imm⟩ db rb lv R R' r' pc' → (⟨k, n, y, r', pc', rpgs R'⟩ : Out) = (faults (rpgs R) r pc 50) → SdStPost w db rb lv R (faults (rpgs R) r pc 50) (.returned (stopV k n y)) (((V.setCell ⟨w.heap.size, 0, none⟩ (.int .u8 k)).setCell ⟨w.heap.size, 1, none⟩ (.int .u32 n)).setCell ⟨w.heap.size, 2, none⟩ (.int .i64 y))) := Lib.hid fun V bx R' k n y r' pc' h e => by rw [← e]; exact h.fin k n y
  generalize SdStPost w db rb lv R (faults (rpgs R) r pc 50) = PQ at *
  generalize strOfNums (Sp.getL (rpgs R) pc 8) = S at *
  have hnx : IntKind.u32.wrap (pc + 8) = next pc := by rw [IntKind.wrap_u32']; rfl
  clear hn hbW hE hf hF hd hx
  unfold Ins.val at HD
  simp only at HD
  go_enter Tryz.func29, Tryz.ntmps29
  go_wp2_with fail
  refine HF.out.mono ?_
  rintro e w1 ⟨rfl, hb1⟩
  have HR1 := Lib.hid (HR.out.frame (hb1.block _ (by simp)))
  have HB1 := Lib.hid (below_th HB.out hb1)
  clear hb1
  go_wp2_with fail
  refine (HD.out _).mono ?_
  rintro e w2 ⟨rfl, hb2⟩
  have hs1 := HR1.out.blk
  have hR2 := HR1.out.frame (hb2.block _ (lt_of_block hs1))
  have hB2 := below_th HB1.out hb2
  have hdv := HDV.out w2 hB2 hR2
  have hq1 := (hc.below hB2).cellPc
  have hq2 : db < w2.heap.size := (hc.below hB2).lt
  unfold insCells at hdv
  simp only at hdv
  clear hb2 hs1 HDV HD HF HR HR1 HB HB1
  generalize hW3 : w2.alloc (.cells #[.int .u8 33, .int .u8 d, .int .u8 a, .int .u8 b, .int .u32 imm] 91) = w3 at *
  have H3 := Lib.hid hdv
  obtain ⟨y0, y1, y2, y3, y4⟩ := hdv.cells
  simp only at y0 y1 y2 y3 y4
  have z0 := hdv.cpu.cellPc
  have z1 := hdv.cpu.cellReg a ha
  have z2 := hdv.cpu.cellReg b hb
  have z3 := hdv.cpu.thaw 16
  clear hdv hR2 hB2 hq1 hq2
  go_wp2_with fail
  refine (HMem.out _ H3.out.cpu H3.out.rsp).mono ?_
  rintro e w5 ⟨rfl, hc5, hr5, hm5⟩
  have hdv := H3.out.setC hc5 hm5
  obtain ⟨y0, y1, y2, y3, y4⟩ := hdv.cells
  simp only at y0 y1 y2 y3 y4
  have H5 := Lib.hid hdv
  have hne : w.heap.size ≠ db := by have := hdv.nb.2.2.1; omega
  clear hdv hc5 hr5 hm5 H3 z0 z1 z2 z3 HMem
  go_wp2_with fail
  refine (faultD 50 _).mono ?_
  rintro e w6 ⟨rfl, hb6⟩
  have hdv := H5.out.below hb6
  obtain ⟨c0, c1, c2, f0, f1, f2⟩ := hdv.rs.cells
  have H6 := Lib.hid hdv
  clear hdv hb6
  go_wp2
  refine bodyPost_ret (v := stopV 2 0 50) (by simp [results, Tryz.results29, go_sem, stopV, *]) rfl ?_
  exact HPQ.out _ _ _ 2 0 50 _ _ H6.out rfl
set_option maxRecDepth 100000 in
set_option maxHeartbeats 2000000 in
theorem stepD_lw_yes (hc : Cpu 107 w db r pc) (hr : Rsp w rb lv R) (hn : ¬ Rsp.foot rb lv R db) (hf : Sp.fitsB (rpgs R) pc 8 4 = true) (hd : Ins.decB (strOfNums (Sp.getL (rpgs R) pc 8)) = true)
    (d a b : Nat) (imm : Int) (hx : Ins.decI (strOfNums (Sp.getL (rpgs R) pc 8)) = ⟨34, d, a, b, imm⟩) (i0 : 0 ≤ imm) (i1 : imm ≤ 4294967295) (hd16 : d < 16) (ha : a < 16) (hb : b < 16) (hfm : Sp.fitsB (rpgs R) ((rg r a + imm) % 4294967296) 4 1 = true) :
    Calls Tryz.prog 29 #[.pointer (some ⟨db, 0, none⟩), .pointer (some ⟨rb, 0, none⟩)] w (SdStPost w db rb lv R (goes (rpgs R) (putG r d (getV (Sp.getL (rpgs R) ((rg r a + imm) % 4294967296) 4))) (next pc))) := by
  have hva := rg_bd hc.regs a
  have hvb := rg_bd hc.regs b
  have ha1 : (a : Int) < 16 := by omega
  have hb1 : (b : Int) < 16 := by omega
  have HMem : Hid (∀ V, Cpu 107 V db r pc → Rsp V rb lv R → Calls Tryz.prog 71 #[.pointer (some ⟨db, 0, none⟩), .pointer (some ⟨rb, 0, none⟩), .agg #[.int .u8 34, .int .u8 d, .int .u8 a, .int .u8 b, .int .u32 imm]] V (LdPost V db (putG r d (getV (Sp.getL (rpgs R) ((rg r a + imm) % 4294967296) 4))) pc rb lv R 0)) := Lib.hid fun V g1 g2 => mem34_yes g1 g2 hn d a b imm i0 i1 hd16 ha hb hfm
  have hE := fetch_yes hf
  have hbW : Below w.heap.size w (w.alloc (.cells #[.int .u8 0, .int .u32 0, .int .i64 0] 29)) := (Below.refl _ _).alloc (Nat.le_refl _) _
  have hcp := (hc.below hbW).cellPc
  have hF := Rs.get_any (hr.same hbW) pc 8 4 hc.p0 hc.p1 (by omega) (by omega)
  rw [hE.1, hE.2] at hF
  have HF := Lib.hid hF
  have HB := Lib.hid hbW
  have HR := Lib.hid (⟨heap_alloc_new w _⟩ : RsBox (w.alloc (.cells #[.int .u8 0, .int .u32 0, .int .i64 0] 29)) w.heap.size)
  have HD : Hid (∀ W, Calls Tryz.prog 68 #[.string (strOfNums (Sp.getL (rpgs R) pc 8))] W fun e w' => e = .returned (.tuple #[Ins.val ⟨34, d, a, b, imm⟩, .int .i64 0]) ∧ Below W.heap.size W w') := Lib.hid fun W => by
    have h := Ins.decodeR (strOfNums (Sp.getL (rpgs R) pc 8)) (by rw [size_strOfNums, Sp.getL_length]; omega) W
    unfold Ins.decX Ins.decE at h
    rw [hd, hx] at h
    exact h
  have HDV : Hid (∀ w2, Below w.heap.size w w2 → RsBox w2 w.heap.size → DV w (w2.alloc (.cells (insCells ⟨34, d, a, b, imm⟩) 91)) w2.heap.size ⟨34, d, a, b, imm⟩ db rb lv R R r pc) := Lib.hid fun w2 hb2 hr2 => by
    have hb3 : Below w2.heap.size w2 (w2.alloc (.cells (insCells ⟨34, d, a, b, imm⟩) 91)) := (Below.refl _ _).alloc (Nat.le_refl _) _
    have hl := lt_of_block hr2.blk
    have hdl := hc.lt
    exact ⟨(hc.below hb2).below hb3, (hr.same hb2).same hb3, hn, heap_alloc_new w2 _, hr2.frame (hb3.block _ hl), (Mod.of_below hb2 _).same (Mod.of_below hb3 _), fun _ g => .inl g, by omega, fun k hk => by have := hr.lt hk; omega, by omega, by omega⟩
  have HPQ : Hid (∀ V bx R' k n y r' pc', DV w V bx ⟨34, d, a, b, imm⟩ db rb lv R R' r' pc' → (⟨k, n, y, r', pc', rpgs R'⟩ : Out) = (goes (rpgs R) (putG r d (getV (Sp.getL (rpgs R) ((rg r a + imm) % 4294967296) 4))) (next pc)) → SdStPost w db rb lv R (goes (rpgs R) (putG r d (getV (Sp.getL (rpgs R) ((rg r a + imm) % 4294967296) 4))) (next pc)) (.returned (stopV k n y)) (((V.setCell ⟨w.heap.size, 0, none⟩ (.int .u8 k)).setCell ⟨w.heap.size, 1, none⟩ (.int .u32 n)).setCell ⟨w.heap.size, 2, none⟩ (.int .i64 y))) := Lib.hid fun V bx R' k n y r' pc' h e => by rw [← e]; exact h.fin k n y
  generalize SdStPost w db rb lv R (goes (rpgs R) (putG r d (getV (Sp.getL (rpgs R) ((rg r a + imm) % 4294967296) 4))) (next pc)) = PQ at *
  generalize strOfNums (Sp.getL (rpgs R) pc 8) = S at *
  have hnx : IntKind.u32.wrap (pc + 8) = next pc := by rw [IntKind.wrap_u32']; rfl
  clear hn hbW hE hf hF hd hx
  unfold Ins.val at HD
  simp only at HD
  go_enter Tryz.func29, Tryz.ntmps29
  go_wp2_with fail
  refine HF.out.mono ?_
  rintro e w1 ⟨rfl, hb1⟩
  have HR1 := Lib.hid (HR.out.frame (hb1.block _ (by simp)))
  have HB1 := Lib.hid (below_th HB.out hb1)
  clear hb1
  go_wp2_with fail
  refine (HD.out _).mono ?_
  rintro e w2 ⟨rfl, hb2⟩
  have hs1 := HR1.out.blk
  have hR2 := HR1.out.frame (hb2.block _ (lt_of_block hs1))
  have hB2 := below_th HB1.out hb2
  have hdv := HDV.out w2 hB2 hR2
  have hq1 := (hc.below hB2).cellPc
  have hq2 : db < w2.heap.size := (hc.below hB2).lt
  unfold insCells at hdv
  simp only at hdv
  clear hb2 hs1 HDV HD HF HR HR1 HB HB1
  generalize hW3 : w2.alloc (.cells #[.int .u8 34, .int .u8 d, .int .u8 a, .int .u8 b, .int .u32 imm] 91) = w3 at *
  have H3 := Lib.hid hdv
  obtain ⟨y0, y1, y2, y3, y4⟩ := hdv.cells
  simp only at y0 y1 y2 y3 y4
  have z0 := hdv.cpu.cellPc
  have z1 := hdv.cpu.cellReg a ha
  have z2 := hdv.cpu.cellReg b hb
  have z3 := hdv.cpu.thaw 16
  clear hdv hR2 hB2 hq1 hq2
  go_wp2_with fail
  refine (HMem.out _ H3.out.cpu H3.out.rsp).mono ?_
  rintro e w5 ⟨rfl, hc5, hr5, hm5⟩
  have hdv := H3.out.setC hc5 hm5
  obtain ⟨y0, y1, y2, y3, y4⟩ := hdv.cells
  simp only at y0 y1 y2 y3 y4
  have H5 := Lib.hid hdv
  clear hdv hc5 hr5 hm5 H3 z0 z1 z2 z3 HMem
  go_wp2_with fail
  refine (branches H5.out.cpu 34 d a b imm ha hb).mono ?_
  rintro e w6 ⟨rfl, hb6⟩
  have hbr : brV (putG r d (getV (Sp.getL (rpgs R) ((rg r a + imm) % 4294967296) 4))) ⟨34, d, a, b, imm⟩ = false := brV_low (by omega)
  rw [hbr]
  have hdv := H5.out.below hb6
  obtain ⟨y0, y1, y2, y3, y4⟩ := hdv.cells
  simp only at y0 y1 y2 y3 y4
  have z0 := hdv.cpu.cellPc
  have z3 := hdv.cpu.thaw 16
  obtain ⟨c0, c1, c2, f0, f1, f2⟩ := hdv.rs.cells
  have hne : w.heap.size ≠ db := by have := hdv.nb.2.2.1; omega
  have H6 := Lib.hid hdv
  clear hdv hb6 hbr
  go_wp2
  refine bodyPost_ret (v := stopV 0 0 0) (by simp [results, Tryz.results29, go_sem, stopV, *]) rfl ?_
  exact HPQ.out _ _ _ 0 0 0 _ _ (H6.out.setC (H6.out.cpu.setPc (next pc) (next_bd pc).1 (next_bd pc).2) (Mod.setCell (F := fun j => j = db) (Mod.refl _ _) _ (.inl rfl) _)) rfl
set_option maxRecDepth 100000 in
set_option maxHeartbeats 2000000 in
theorem stepD_lw_no (hc : Cpu 107 w db r pc) (hr : Rsp w rb lv R) (hn : ¬ Rsp.foot rb lv R db) (hf : Sp.fitsB (rpgs R) pc 8 4 = true) (hd : Ins.decB (strOfNums (Sp.getL (rpgs R) pc 8)) = true)
    (d a b : Nat) (imm : Int) (hx : Ins.decI (strOfNums (Sp.getL (rpgs R) pc 8)) = ⟨34, d, a, b, imm⟩) (i0 : 0 ≤ imm) (i1 : imm ≤ 4294967295) (hd16 : d < 16) (ha : a < 16) (hb : b < 16) (hfm : Sp.fitsB (rpgs R) ((rg r a + imm) % 4294967296) 4 1 = false) :
    Calls Tryz.prog 29 #[.pointer (some ⟨db, 0, none⟩), .pointer (some ⟨rb, 0, none⟩)] w (SdStPost w db rb lv R (faults (rpgs R) r pc 50)) := by
  have hva := rg_bd hc.regs a
  have hvb := rg_bd hc.regs b
  have ha1 : (a : Int) < 16 := by omega
  have hb1 : (b : Int) < 16 := by omega
  have HMem : Hid (∀ V, Cpu 107 V db r pc → Rsp V rb lv R → Calls Tryz.prog 71 #[.pointer (some ⟨db, 0, none⟩), .pointer (some ⟨rb, 0, none⟩), .agg #[.int .u8 34, .int .u8 d, .int .u8 a, .int .u8 b, .int .u32 imm]] V (LdPost V db r pc rb lv R 50)) := Lib.hid fun V g1 g2 => mem34_no g1 g2 hn d a b imm i0 i1 hd16 ha hb hfm
  have hE := fetch_yes hf
  have hbW : Below w.heap.size w (w.alloc (.cells #[.int .u8 0, .int .u32 0, .int .i64 0] 29)) := (Below.refl _ _).alloc (Nat.le_refl _) _
  have hcp := (hc.below hbW).cellPc
  have hF := Rs.get_any (hr.same hbW) pc 8 4 hc.p0 hc.p1 (by omega) (by omega)
  rw [hE.1, hE.2] at hF
  have HF := Lib.hid hF
  have HB := Lib.hid hbW
  have HR := Lib.hid (⟨heap_alloc_new w _⟩ : RsBox (w.alloc (.cells #[.int .u8 0, .int .u32 0, .int .i64 0] 29)) w.heap.size)
  have HD : Hid (∀ W, Calls Tryz.prog 68 #[.string (strOfNums (Sp.getL (rpgs R) pc 8))] W fun e w' => e = .returned (.tuple #[Ins.val ⟨34, d, a, b, imm⟩, .int .i64 0]) ∧ Below W.heap.size W w') := Lib.hid fun W => by
    have h := Ins.decodeR (strOfNums (Sp.getL (rpgs R) pc 8)) (by rw [size_strOfNums, Sp.getL_length]; omega) W
    unfold Ins.decX Ins.decE at h
    rw [hd, hx] at h
    exact h
  have HDV : Hid (∀ w2, Below w.heap.size w w2 → RsBox w2 w.heap.size → DV w (w2.alloc (.cells (insCells ⟨34, d, a, b, imm⟩) 91)) w2.heap.size ⟨34, d, a, b, imm⟩ db rb lv R R r pc) := Lib.hid fun w2 hb2 hr2 => by
    have hb3 : Below w2.heap.size w2 (w2.alloc (.cells (insCells ⟨34, d, a, b, imm⟩) 91)) := (Below.refl _ _).alloc (Nat.le_refl _) _
    have hl := lt_of_block hr2.blk
    have hdl := hc.lt
    exact ⟨(hc.below hb2).below hb3, (hr.same hb2).same hb3, hn, heap_alloc_new w2 _, hr2.frame (hb3.block _ hl), (Mod.of_below hb2 _).same (Mod.of_below hb3 _), fun _ g => .inl g, by omega, fun k hk => by have := hr.lt hk; omega, by omega, by omega⟩
  have HPQ : Hid (∀ V bx R' k n y r' pc', DV w V bx ⟨34, d, a, b, imm⟩ db rb lv R R' r' pc' → (⟨k, n, y, r', pc', rpgs R'⟩ : Out) = (faults (rpgs R) r pc 50) → SdStPost w db rb lv R (faults (rpgs R) r pc 50) (.returned (stopV k n y)) (((V.setCell ⟨w.heap.size, 0, none⟩ (.int .u8 k)).setCell ⟨w.heap.size, 1, none⟩ (.int .u32 n)).setCell ⟨w.heap.size, 2, none⟩ (.int .i64 y))) := Lib.hid fun V bx R' k n y r' pc' h e => by rw [← e]; exact h.fin k n y
  generalize SdStPost w db rb lv R (faults (rpgs R) r pc 50) = PQ at *
  generalize strOfNums (Sp.getL (rpgs R) pc 8) = S at *
  have hnx : IntKind.u32.wrap (pc + 8) = next pc := by rw [IntKind.wrap_u32']; rfl
  clear hn hbW hE hf hF hd hx
  unfold Ins.val at HD
  simp only at HD
  go_enter Tryz.func29, Tryz.ntmps29
  go_wp2_with fail
  refine HF.out.mono ?_
  rintro e w1 ⟨rfl, hb1⟩
  have HR1 := Lib.hid (HR.out.frame (hb1.block _ (by simp)))
  have HB1 := Lib.hid (below_th HB.out hb1)
  clear hb1
  go_wp2_with fail
  refine (HD.out _).mono ?_
  rintro e w2 ⟨rfl, hb2⟩
  have hs1 := HR1.out.blk
  have hR2 := HR1.out.frame (hb2.block _ (lt_of_block hs1))
  have hB2 := below_th HB1.out hb2
  have hdv := HDV.out w2 hB2 hR2
  have hq1 := (hc.below hB2).cellPc
  have hq2 : db < w2.heap.size := (hc.below hB2).lt
  unfold insCells at hdv
  simp only at hdv
  clear hb2 hs1 HDV HD HF HR HR1 HB HB1
  generalize hW3 : w2.alloc (.cells #[.int .u8 34, .int .u8 d, .int .u8 a, .int .u8 b, .int .u32 imm] 91) = w3 at *
  have H3 := Lib.hid hdv
  obtain ⟨y0, y1, y2, y3, y4⟩ := hdv.cells
  simp only at y0 y1 y2 y3 y4
  have z0 := hdv.cpu.cellPc
  have z1 := hdv.cpu.cellReg a ha
  have z2 := hdv.cpu.cellReg b hb
  have z3 := hdv.cpu.thaw 16
  clear hdv hR2 hB2 hq1 hq2
  go_wp2_with fail
  refine (HMem.out _ H3.out.cpu H3.out.rsp).mono ?_
  rintro e w5 ⟨rfl, hc5, hr5, hm5⟩
  have hdv := H3.out.setC hc5 hm5
  obtain ⟨y0, y1, y2, y3, y4⟩ := hdv.cells
  simp only at y0 y1 y2 y3 y4
  have H5 := Lib.hid hdv
  have hne : w.heap.size ≠ db := by have := hdv.nb.2.2.1; omega
  clear hdv hc5 hr5 hm5 H3 z0 z1 z2 z3 HMem
  go_wp2_with fail
  refine (faultD 50 _).mono ?_
  rintro e w6 ⟨rfl, hb6⟩
  have hdv := H5.out.below hb6
  obtain ⟨c0, c1, c2, f0, f1, f2⟩ := hdv.rs.cells
  have H6 := Lib.hid hdv
  clear hdv hb6
  go_wp2
  refine bodyPost_ret (v := stopV 2 0 50) (by simp [results, Tryz.results29, go_sem, stopV, *]) rfl ?_
  exact HPQ.out _ _ _ 2 0 50 _ _ H6.out rfl
set_option maxRecDepth 100000 in
set_option maxHeartbeats 2000000 in
theorem stepD_sb_yes (hc : Cpu 107 w db r pc) (hr : Rsp w rb lv R) (hn : ¬ Rsp.foot rb lv R db) (hf : Sp.fitsB (rpgs R) pc 8 4 = true) (hd : Ins.decB (strOfNums (Sp.getL (rpgs R) pc 8)) = true)
    (d a b : Nat) (imm : Int) (hx : Ins.decI (strOfNums (Sp.getL (rpgs R) pc 8)) = ⟨35, d, a, b, imm⟩) (i0 : 0 ≤ imm) (i1 : imm ≤ 4294967295) (hd16 : d < 16) (ha : a < 16) (hb : b < 16) (hfm : Sp.fitsB (rpgs R) ((rg r a + imm) % 4294967296) 1 2 = true) :
    Calls Tryz.prog 29 #[.pointer (some ⟨db, 0, none⟩), .pointer (some ⟨rb, 0, none⟩)] w (SdStPost w db rb lv R (goes (putN (rpgs R) ((rg r a + imm) % 4294967296) ((putL (rg r b)).take 1) 1) r (next pc))) := by
  have hva := rg_bd hc.regs a
  have hvb := rg_bd hc.regs b
  have ha1 : (a : Int) < 16 := by omega
  have hb1 : (b : Int) < 16 := by omega
  have HMem : Hid (∀ V, Cpu 107 V db r pc → Rsp V rb lv R → Calls Tryz.prog 71 #[.pointer (some ⟨db, 0, none⟩), .pointer (some ⟨rb, 0, none⟩), .agg #[.int .u8 35, .int .u8 d, .int .u8 a, .int .u8 b, .int .u32 imm]] V (SdPost V db r pc rb lv R (putN (rpgs R) ((rg r a + imm) % 4294967296) ((putL (rg r b)).take 1) 1) 0)) := Lib.hid fun V g1 g2 => mem35_yes g1 g2 hn d a b imm i0 i1 hd16 ha hb hfm
  have hE := fetch_yes hf
  have hbW : Below w.heap.size w (w.alloc (.cells #[.int .u8 0, .int .u32 0, .int .i64 0] 29)) := (Below.refl _ _).alloc (Nat.le_refl _) _
  have hcp := (hc.below hbW).cellPc
  have hF := Rs.get_any (hr.same hbW) pc 8 4 hc.p0 hc.p1 (by omega) (by omega)
  rw [hE.1, hE.2] at hF
  have HF := Lib.hid hF
  have HB := Lib.hid hbW
  have HR := Lib.hid (⟨heap_alloc_new w _⟩ : RsBox (w.alloc (.cells #[.int .u8 0, .int .u32 0, .int .i64 0] 29)) w.heap.size)
  have HD : Hid (∀ W, Calls Tryz.prog 68 #[.string (strOfNums (Sp.getL (rpgs R) pc 8))] W fun e w' => e = .returned (.tuple #[Ins.val ⟨35, d, a, b, imm⟩, .int .i64 0]) ∧ Below W.heap.size W w') := Lib.hid fun W => by
    have h := Ins.decodeR (strOfNums (Sp.getL (rpgs R) pc 8)) (by rw [size_strOfNums, Sp.getL_length]; omega) W
    unfold Ins.decX Ins.decE at h
    rw [hd, hx] at h
    exact h
  have HDV : Hid (∀ w2, Below w.heap.size w w2 → RsBox w2 w.heap.size → DV w (w2.alloc (.cells (insCells ⟨35, d, a, b, imm⟩) 91)) w2.heap.size ⟨35, d, a, b, imm⟩ db rb lv R R r pc) := Lib.hid fun w2 hb2 hr2 => by
    have hb3 : Below w2.heap.size w2 (w2.alloc (.cells (insCells ⟨35, d, a, b, imm⟩) 91)) := (Below.refl _ _).alloc (Nat.le_refl _) _
    have hl := lt_of_block hr2.blk
    have hdl := hc.lt
    exact ⟨(hc.below hb2).below hb3, (hr.same hb2).same hb3, hn, heap_alloc_new w2 _, hr2.frame (hb3.block _ hl), (Mod.of_below hb2 _).same (Mod.of_below hb3 _), fun _ g => .inl g, by omega, fun k hk => by have := hr.lt hk; omega, by omega, by omega⟩
  have HPQ : Hid (∀ V bx R' k n y r' pc', DV w V bx ⟨35, d, a, b, imm⟩ db rb lv R R' r' pc' → (⟨k, n, y, r', pc', rpgs R'⟩ : Out) = (goes (putN (rpgs R) ((rg r a + imm) % 4294967296) ((putL (rg r b)).take 1) 1) r (next pc)) → SdStPost w db rb lv R (goes (putN (rpgs R) ((rg r a + imm) % 4294967296) ((putL (rg r b)).take 1) 1) r (next pc)) (.returned (stopV k n y)) (((V.setCell ⟨w.heap.size, 0, none⟩ (.int .u8 k)).setCell ⟨w.heap.size, 1, none⟩ (.int .u32 n)).setCell ⟨w.heap.size, 2, none⟩ (.int .i64 y))) := Lib.hid fun V bx R' k n y r' pc' h e => by rw [← e]; exact h.fin k n y
  generalize SdStPost w db rb lv R (goes (putN (rpgs R) ((rg r a + imm) % 4294967296) ((putL (rg r b)).take 1) 1) r (next pc)) = PQ at *
  generalize strOfNums (Sp.getL (rpgs R) pc 8) = S at *
  have hnx : IntKind.u32.wrap (pc + 8) = next pc := by rw [IntKind.wrap_u32']; rfl
  clear hn hbW hE hf hF hd hx
  unfold Ins.val at HD
  simp only at HD
  go_enter Tryz.func29, Tryz.ntmps29
  go_wp2_with fail
  refine HF.out.mono ?_
  rintro e w1 ⟨rfl, hb1⟩
  have HR1 := Lib.hid (HR.out.frame (hb1.block _ (by simp)))
  have HB1 := Lib.hid (below_th HB.out hb1)
  clear hb1
  go_wp2_with fail
  refine (HD.out _).mono ?_
  rintro e w2 ⟨rfl, hb2⟩
  have hs1 := HR1.out.blk
  have hR2 := HR1.out.frame (hb2.block _ (lt_of_block hs1))
  have hB2 := below_th HB1.out hb2
  have hdv := HDV.out w2 hB2 hR2
  have hq1 := (hc.below hB2).cellPc
  have hq2 : db < w2.heap.size := (hc.below hB2).lt
  unfold insCells at hdv
  simp only at hdv
  clear hb2 hs1 HDV HD HF HR HR1 HB HB1
  generalize hW3 : w2.alloc (.cells #[.int .u8 35, .int .u8 d, .int .u8 a, .int .u8 b, .int .u32 imm] 91) = w3 at *
  have H3 := Lib.hid hdv
  obtain ⟨y0, y1, y2, y3, y4⟩ := hdv.cells
  simp only at y0 y1 y2 y3 y4
  have z0 := hdv.cpu.cellPc
  have z1 := hdv.cpu.cellReg a ha
  have z2 := hdv.cpu.cellReg b hb
  have z3 := hdv.cpu.thaw 16
  clear hdv hR2 hB2 hq1 hq2
  go_wp2_with fail
  refine (HMem.out _ H3.out.cpu H3.out.rsp).mono ?_
  rintro e w5 ⟨R5, rfl, hc5, hR5, hs5⟩
  have hdv := H3.out.setR hc5 hs5
  have HR5 := Lib.hid hR5
  clear hR5
  obtain ⟨y0, y1, y2, y3, y4⟩ := hdv.cells
  simp only at y0 y1 y2 y3 y4
  have H5 := Lib.hid hdv
  clear hdv hc5 hs5 H3 z0 z1 z2 z3 HMem
  go_wp2_with fail
  refine (branches H5.out.cpu 35 d a b imm ha hb).mono ?_
  rintro e w6 ⟨rfl, hb6⟩
  have hbr : brV r ⟨35, d, a, b, imm⟩ = false := brV_low (by omega)
  rw [hbr]
  have hdv := H5.out.below hb6
  obtain ⟨y0, y1, y2, y3, y4⟩ := hdv.cells
  simp only at y0 y1 y2 y3 y4
  have z0 := hdv.cpu.cellPc
  have z3 := hdv.cpu.thaw 16
  obtain ⟨c0, c1, c2, f0, f1, f2⟩ := hdv.rs.cells
  have hne : w.heap.size ≠ db := by have := hdv.nb.2.2.1; omega
  have H6 := Lib.hid hdv
  clear hdv hb6 hbr
  go_wp2
  refine bodyPost_ret (v := stopV 0 0 0) (by simp [results, Tryz.results29, go_sem, stopV, *]) rfl ?_
  exact HPQ.out _ _ _ 0 0 0 _ _ (H6.out.setC (H6.out.cpu.setPc (next pc) (next_bd pc).1 (next_bd pc).2) (Mod.setCell (F := fun j => j = db) (Mod.refl _ _) _ (.inl rfl) _)) (by rw [HR5.out]; rfl)
set_option maxRecDepth 100000 in
set_option maxHeartbeats 2000000 in
theorem stepD_sb_no (hc : Cpu 107 w db r pc) (hr : Rsp w rb lv R) (hn : ¬ Rsp.foot rb lv R db) (hf : Sp.fitsB (rpgs R) pc 8 4 = true) (hd : Ins.decB (strOfNums (Sp.getL (rpgs R) pc 8)) = true)
    (d a b : Nat) (imm : Int) (hx : Ins.decI (strOfNums (Sp.getL (rpgs R) pc 8)) = ⟨35, d, a, b, imm⟩) (i0 : 0 ≤ imm) (i1 : imm ≤ 4294967295) (hd16 : d < 16) (ha : a < 16) (hb : b < 16) (hfm : Sp.fitsB (rpgs R) ((rg r a + imm) % 4294967296) 1 2 = false) :
    Calls Tryz.prog 29 #[.pointer (some ⟨db, 0, none⟩), .pointer (some ⟨rb, 0, none⟩)] w (SdStPost w db rb lv R (faults (rpgs R) r pc 50)) := by
  have hva := rg_bd hc.regs a
  have hvb := rg_bd hc.regs b
  have ha1 : (a : Int) < 16 := by omega
  have hb1 : (b : Int) < 16 := by omega
  have HMem : Hid (∀ V, Cpu 107 V db r pc → Rsp V rb lv R → Calls Tryz.prog 71 #[.pointer (some ⟨db, 0, none⟩), .pointer (some ⟨rb, 0, none⟩), .agg #[.int .u8 35, .int .u8 d, .int .u8 a, .int .u8 b, .int .u32 imm]] V (SdPost V db r pc rb lv R (rpgs R) 50)) := Lib.hid fun V g1 g2 => mem35_no g1 g2 hn d a b imm i0 i1 hd16 ha hb hfm
  have hE := fetch_yes hf
  have hbW : Below w.heap.size w (w.alloc (.cells #[.int .u8 0, .int .u32 0, .int .i64 0] 29)) := (Below.refl _ _).alloc (Nat.le_refl _) _
  have hcp := (hc.below hbW).cellPc
  have hF := Rs.get_any (hr.same hbW) pc 8 4 hc.p0 hc.p1 (by omega) (by omega)
  rw [hE.1, hE.2] at hF
  have HF := Lib.hid hF
  have HB := Lib.hid hbW
  have HR := Lib.hid (⟨heap_alloc_new w _⟩ : RsBox (w.alloc (.cells #[.int .u8 0, .int .u32 0, .int .i64 0] 29)) w.heap.size)
  have HD : Hid (∀ W, Calls Tryz.prog 68 #[.string (strOfNums (Sp.getL (rpgs R) pc 8))] W fun e w' => e = .returned (.tuple #[Ins.val ⟨35, d, a, b, imm⟩, .int .i64 0]) ∧ Below W.heap.size W w') := Lib.hid fun W => by
    have h := Ins.decodeR (strOfNums (Sp.getL (rpgs R) pc 8)) (by rw [size_strOfNums, Sp.getL_length]; omega) W
    unfold Ins.decX Ins.decE at h
    rw [hd, hx] at h
    exact h
  have HDV : Hid (∀ w2, Below w.heap.size w w2 → RsBox w2 w.heap.size → DV w (w2.alloc (.cells (insCells ⟨35, d, a, b, imm⟩) 91)) w2.heap.size ⟨35, d, a, b, imm⟩ db rb lv R R r pc) := Lib.hid fun w2 hb2 hr2 => by
    have hb3 : Below w2.heap.size w2 (w2.alloc (.cells (insCells ⟨35, d, a, b, imm⟩) 91)) := (Below.refl _ _).alloc (Nat.le_refl _) _
    have hl := lt_of_block hr2.blk
    have hdl := hc.lt
    exact ⟨(hc.below hb2).below hb3, (hr.same hb2).same hb3, hn, heap_alloc_new w2 _, hr2.frame (hb3.block _ hl), (Mod.of_below hb2 _).same (Mod.of_below hb3 _), fun _ g => .inl g, by omega, fun k hk => by have := hr.lt hk; omega, by omega, by omega⟩
  have HPQ : Hid (∀ V bx R' k n y r' pc', DV w V bx ⟨35, d, a, b, imm⟩ db rb lv R R' r' pc' → (⟨k, n, y, r', pc', rpgs R'⟩ : Out) = (faults (rpgs R) r pc 50) → SdStPost w db rb lv R (faults (rpgs R) r pc 50) (.returned (stopV k n y)) (((V.setCell ⟨w.heap.size, 0, none⟩ (.int .u8 k)).setCell ⟨w.heap.size, 1, none⟩ (.int .u32 n)).setCell ⟨w.heap.size, 2, none⟩ (.int .i64 y))) := Lib.hid fun V bx R' k n y r' pc' h e => by rw [← e]; exact h.fin k n y
  generalize SdStPost w db rb lv R (faults (rpgs R) r pc 50) = PQ at *
  generalize strOfNums (Sp.getL (rpgs R) pc 8) = S at *
  have hnx : IntKind.u32.wrap (pc + 8) = next pc := by rw [IntKind.wrap_u32']; rfl
  clear hn hbW hE hf hF hd hx
  unfold Ins.val at HD
  simp only at HD
  go_enter Tryz.func29, Tryz.ntmps29
  go_wp2_with fail
  refine HF.out.mono ?_
  rintro e w1 ⟨rfl, hb1⟩
  have HR1 := Lib.hid (HR.out.frame (hb1.block _ (by simp)))
  have HB1 := Lib.hid (below_th HB.out hb1)
  clear hb1
  go_wp2_with fail
  refine (HD.out _).mono ?_
  rintro e w2 ⟨rfl, hb2⟩
  have hs1 := HR1.out.blk
  have hR2 := HR1.out.frame (hb2.block _ (lt_of_block hs1))
  have hB2 := below_th HB1.out hb2
  have hdv := HDV.out w2 hB2 hR2
  have hq1 := (hc.below hB2).cellPc
  have hq2 : db < w2.heap.size := (hc.below hB2).lt
  unfold insCells at hdv
  simp only at hdv
  clear hb2 hs1 HDV HD HF HR HR1 HB HB1
  generalize hW3 : w2.alloc (.cells #[.int .u8 35, .int .u8 d, .int .u8 a, .int .u8 b, .int .u32 imm] 91) = w3 at *
  have H3 := Lib.hid hdv
  obtain ⟨y0, y1, y2, y3, y4⟩ := hdv.cells
  simp only at y0 y1 y2 y3 y4
  have z0 := hdv.cpu.cellPc
  have z1 := hdv.cpu.cellReg a ha
  have z2 := hdv.cpu.cellReg b hb
  have z3 := hdv.cpu.thaw 16
  clear hdv hR2 hB2 hq1 hq2
  go_wp2_with fail
  refine (HMem.out _ H3.out.cpu H3.out.rsp).mono ?_
  rintro e w5 ⟨R5, rfl, hc5, hR5, hs5⟩
  have hdv := H3.out.setR hc5 hs5
  have HR5 := Lib.hid hR5
  clear hR5
  obtain ⟨y0, y1, y2, y3, y4⟩ := hdv.cells
  simp only at y0 y1 y2 y3 y4
  have H5 := Lib.hid hdv
  have hne : w.heap.size ≠ db := by have := hdv.nb.2.2.1; omega
  clear hdv hc5 hs5 H3 z0 z1 z2 z3 HMem
  go_wp2_with fail
  refine (faultD 50 _).mono ?_
  rintro e w6 ⟨rfl, hb6⟩
  have hdv := H5.out.below hb6
  obtain ⟨c0, c1, c2, f0, f1, f2⟩ := hdv.rs.cells
  have H6 := Lib.hid hdv
  clear hdv hb6
  go_wp2
  refine bodyPost_ret (v := stopV 2 0 50) (by simp [results, Tryz.results29, go_sem, stopV, *]) rfl ?_
  exact HPQ.out _ _ _ 2 0 50 _ _ H6.out (by rw [HR5.out]; rfl)
set_option maxRecDepth 100000 in
set_option maxHeartbeats 2000000 in
theorem stepD_sw_yes (hc : Cpu 107 w db r pc) (hr : Rsp w rb lv R) (hn : ¬ Rsp.foot rb lv R db) (hf : Sp.fitsB (rpgs R) pc 8 4 = true) (hd : Ins.decB (strOfNums (Sp.getL (rpgs R) pc 8)) = true)
    (d a b : Nat) (imm : Int) (hx : Ins.decI (strOfNums (Sp.getL (rpgs R) pc 8)) = ⟨36, d, a, b, imm⟩) (i0 : 0 ≤ imm) (i1 : imm ≤ 4294967295) (hd16 : d < 16) (ha : a < 16) (hb : b < 16) (hfm : Sp.fitsB (rpgs R) ((rg r a + imm) % 4294967296) 4 2 = true) :
    Calls Tryz.prog 29 #[.pointer (some ⟨db, 0, none⟩), .pointer (some ⟨rb, 0, none⟩)] w (SdStPost w db rb lv R (goes (putN (rpgs R) ((rg r a + imm) % 4294967296) ((putL (rg r b)).take 4) 4) r (next pc))) := by
  have hva := rg_bd hc.regs a
  have hvb := rg_bd hc.regs b
  have ha1 : (a : Int) < 16 := by omega
  have hb1 : (b : Int) < 16 := by omega
  have HMem : Hid (∀ V, Cpu 107 V db r pc → Rsp V rb lv R → Calls Tryz.prog 71 #[.pointer (some ⟨db, 0, none⟩), .pointer (some ⟨rb, 0, none⟩), .agg #[.int .u8 36, .int .u8 d, .int .u8 a, .int .u8 b, .int .u32 imm]] V (SdPost V db r pc rb lv R (putN (rpgs R) ((rg r a + imm) % 4294967296) ((putL (rg r b)).take 4) 4) 0)) := Lib.hid fun V g1 g2 => mem36_yes g1 g2 hn d a b imm i0 i1 hd16 ha hb hfm
  have hE := fetch_yes hf
  have hbW : Below w.heap.size w (w.alloc (.cells #[.int .u8 0, .int .u32 0, .int .i64 0] 29)) := (Below.refl _ _).alloc (Nat.le_refl _) _
  have hcp := (hc.below hbW).cellPc
  have hF := Rs.get_any (hr.same hbW) pc 8 4 hc.p0 hc.p1 (by omega) (by omega)
  rw [hE.1, hE.2] at hF
  have HF := Lib.hid hF
  have HB := Lib.hid hbW
  have HR := Lib.hid (⟨heap_alloc_new w _⟩ : RsBox (w.alloc (.cells #[.int .u8 0, .int .u32 0, .int .i64 0] 29)) w.heap.size)
  have HD : Hid (∀ W, Calls Tryz.prog 68 #[.string (strOfNums (Sp.getL (rpgs R) pc 8))] W fun e w' => e = .returned (.tuple #[Ins.val ⟨36, d, a, b, imm⟩, .int .i64 0]) ∧ Below W.heap.size W w') := Lib.hid fun W => by
    have h := Ins.decodeR (strOfNums (Sp.getL (rpgs R) pc 8)) (by rw [size_strOfNums, Sp.getL_length]; omega) W
    unfold Ins.decX Ins.decE at h
    rw [hd, hx] at h
    exact h
  have HDV : Hid (∀ w2, Below w.heap.size w w2 → RsBox w2 w.heap.size → DV w (w2.alloc (.cells (insCells ⟨36, d, a, b, imm⟩) 91)) w2.heap.size ⟨36, d, a, b, imm⟩ db rb lv R R r pc) := Lib.hid fun w2 hb2 hr2 => by
    have hb3 : Below w2.heap.size w2 (w2.alloc (.cells (insCells ⟨36, d, a, b, imm⟩) 91)) := (Below.refl _ _).alloc (Nat.le_refl _) _
    have hl := lt_of_block hr2.blk
    have hdl := hc.lt
    exact ⟨(hc.below hb2).below hb3, (hr.same hb2).same hb3, hn, heap_alloc_new w2 _, hr2.frame (hb3.block _ hl), (Mod.of_below hb2 _).same (Mod.of_below hb3 _), fun _ g => .inl g, by omega, fun k hk => by have := hr.lt hk; omega, by omega, by omega⟩
  have HPQ : Hid (∀ V bx R' k n y r' pc', DV w V bx ⟨36, d, a, b, imm⟩ db rb lv R R' r' pc' → (⟨k, n, y, r', pc', rpgs R'⟩ : Out) = (goes (putN (rpgs R) ((rg r a + imm) % 4294967296) ((putL (rg r b)).take 4) 4) r (next pc)) → SdStPost w db rb lv R (goes (putN (rpgs R) ((rg r a + imm) % 4294967296) ((putL (rg r b)).take 4) 4) r (next pc)) (.returned (stopV k n y)) (((V.setCell ⟨w.heap.size, 0, none⟩ (.int .u8 k)).setCell ⟨w.heap.size, 1, none⟩ (.int .u32 n)).setCell ⟨w.heap.size, 2, none⟩ (.int .i64 y))) := Lib.hid fun V bx R' k n y r' pc' h e => by rw [← e]; exact h.fin k n y
  generalize SdStPost w db rb lv R (goes (putN (rpgs R) ((rg r a + imm) % 4294967296) ((putL (rg r b)).take 4) 4) r (next pc)) = PQ at *
  generalize strOfNums (Sp.getL (rpgs R) pc 8) = S at *
  have hnx : IntKind.u32.wrap (pc + 8) = next pc := by rw [IntKind.wrap_u32']; rfl
  clear hn hbW hE hf hF hd hx
  unfold Ins.val at HD
  simp only at HD
  go_enter Tryz.func29, Tryz.ntmps29
  go_wp2_with fail
  refine HF.out.mono ?_
  rintro e w1 ⟨rfl, hb1⟩
  have HR1 := Lib.hid (HR.out.frame (hb1.block _ (by simp)))
  have HB1 := Lib.hid (below_th HB.out hb1)
  clear hb1
  go_wp2_with fail
  refine (HD.out _).mono ?_
  rintro e w2 ⟨rfl, hb2⟩
  have hs1 := HR1.out.blk
  have hR2 := HR1.out.frame (hb2.block _ (lt_of_block hs1))
  have hB2 := below_th HB1.out hb2
  have hdv := HDV.out w2 hB2 hR2
  have hq1 := (hc.below hB2).cellPc
  have hq2 : db < w2.heap.size := (hc.below hB2).lt
  unfold insCells at hdv
  simp only at hdv
  clear hb2 hs1 HDV HD HF HR HR1 HB HB1
  generalize hW3 : w2.alloc (.cells #[.int .u8 36, .int .u8 d, .int .u8 a, .int .u8 b, .int .u32 imm] 91) = w3 at *
  have H3 := Lib.hid hdv
  obtain ⟨y0, y1, y2, y3, y4⟩ := hdv.cells
  simp only at y0 y1 y2 y3 y4
  have z0 := hdv.cpu.cellPc
  have z1 := hdv.cpu.cellReg a ha
  have z2 := hdv.cpu.cellReg b hb
  have z3 := hdv.cpu.thaw 16
  clear hdv hR2 hB2 hq1 hq2
  go_wp2_with fail
  refine (HMem.out _ H3.out.cpu H3.out.rsp).mono ?_
  rintro e w5 ⟨R5, rfl, hc5, hR5, hs5⟩
  have hdv := H3.out.setR hc5 hs5
  have HR5 := Lib.hid hR5
  clear hR5
  obtain ⟨y0, y1, y2, y3, y4⟩ := hdv.cells
  simp only at y0 y1 y2 y3 y4
  have H5 := Lib.hid hdv
  clear hdv hc5 hs5 H3 z0 z1 z2 z3 HMem
  go_wp2_with fail
  refine (branches H5.out.cpu 36 d a b imm ha hb).mono ?_
  rintro e w6 ⟨rfl, hb6⟩
  have hbr : brV r ⟨36, d, a, b, imm⟩ = false := brV_low (by omega)
  rw [hbr]
  have hdv := H5.out.below hb6
  obtain ⟨y0, y1, y2, y3, y4⟩ := hdv.cells
  simp only at y0 y1 y2 y3 y4
  have z0 := hdv.cpu.cellPc
  have z3 := hdv.cpu.thaw 16
  obtain ⟨c0, c1, c2, f0, f1, f2⟩ := hdv.rs.cells
  have hne : w.heap.size ≠ db := by have := hdv.nb.2.2.1; omega
  have H6 := Lib.hid hdv
  clear hdv hb6 hbr
  go_wp2
  refine bodyPost_ret (v := stopV 0 0 0) (by simp [results, Tryz.results29, go_sem, stopV, *]) rfl ?_
  exact HPQ.out _ _ _ 0 0 0 _ _ (H6.out.setC (H6.out.cpu.setPc (next pc) (next_bd pc).1 (next_bd pc).2) (Mod.setCell (F := fun j => j = db) (Mod.refl _ _) _ (.inl rfl) _)) (by rw [HR5.out]; rfl)
set_option maxRecDepth 100000 in
set_option maxHeartbeats 2000000 in
theorem stepD_sw_no (hc : Cpu 107 w db r pc) (hr : Rsp w rb lv R) (hn : ¬ Rsp.foot rb lv R db) (hf : Sp.fitsB (rpgs R) pc 8 4 = true) (hd : Ins.decB (strOfNums (Sp.getL (rpgs R) pc 8)) = true)
    (d a b : Nat) (imm : Int) (hx : Ins.decI (strOfNums (Sp.getL (rpgs R) pc 8)) = ⟨36, d, a, b, imm⟩) (i0 : 0 ≤ imm) (i1 : imm ≤ 4294967295) (hd16 : d < 16) (ha : a < 16) (hb : b < 16) (hfm : Sp.fitsB (rpgs R) ((rg r a + imm) % 4294967296) 4 2 = false) :
    Calls Tryz.prog 29 #[.pointer (some ⟨db, 0, none⟩), .pointer (some ⟨rb, 0, none⟩)] w (SdStPost w db rb lv R (faults (rpgs R) r pc 50)) := by
  have hva := rg_bd hc.regs a
  have hvb := rg_bd hc.regs b
  have ha1 : (a : Int) < 16 := by omega
  have hb1 : (b : Int) < 16 := by omega
  have HMem : Hid (∀ V, Cpu 107 V db r pc → Rsp V rb lv R → Calls Tryz.prog 71 #[.pointer (some ⟨db, 0, none⟩), .pointer (some ⟨rb, 0, none⟩), .agg #[.int .u8 36, .int .u8 d, .int .u8 a, .int .u8 b, .int .u32 imm]] V (SdPost V db r pc rb lv R (rpgs R) 50)) := Lib.hid fun V g1 g2 => mem36_no g1 g2 hn d a b imm i0 i1 hd16 ha hb hfm
  have hE := fetch_yes hf
  have hbW : Below w.heap.size w (w.alloc (.cells #[.int .u8 0, .int .u32 0, .int .i64 0] 29)) := (Below.refl _ _).alloc (Nat.le_refl _) _
  have hcp := (hc.below hbW).cellPc
  have hF := Rs.get_any (hr.same hbW) pc 8 4 hc.p0 hc.p1 (by omega) (by omega)
  rw [hE.1, hE.2] at hF
  have HF := Lib.hid hF
  have HB := Lib.hid hbW
  have HR := Lib.hid (⟨heap_alloc_new w _⟩ : RsBox (w.alloc (.cells #[.int .u8 0, .int .u32 0, .int .i64 0] 29)) w.heap.size)
  have HD : Hid (∀ W, Calls Tryz.prog 68 #[.string (strOfNums (Sp.getL (rpgs R) pc 8))] W fun e w' => e = .returned (.tuple #[Ins.val ⟨36, d, a, b, imm⟩, .int .i64 0]) ∧ Below W.heap.size W w') := Lib.hid fun W => by
    have h := Ins.decodeR (strOfNums (Sp.getL (rpgs R) pc 8)) (by rw [size_strOfNums, Sp.getL_length]; omega) W
    unfold Ins.decX Ins.decE at h
    rw [hd, hx] at h
    exact h
  have HDV : Hid (∀ w2, Below w.heap.size w w2 → RsBox w2 w.heap.size → DV w (w2.alloc (.cells (insCells ⟨36, d, a, b, imm⟩) 91)) w2.heap.size ⟨36, d, a, b, imm⟩ db rb lv R R r pc) := Lib.hid fun w2 hb2 hr2 => by
    have hb3 : Below w2.heap.size w2 (w2.alloc (.cells (insCells ⟨36, d, a, b, imm⟩) 91)) := (Below.refl _ _).alloc (Nat.le_refl _) _
    have hl := lt_of_block hr2.blk
    have hdl := hc.lt
    exact ⟨(hc.below hb2).below hb3, (hr.same hb2).same hb3, hn, heap_alloc_new w2 _, hr2.frame (hb3.block _ hl), (Mod.of_below hb2 _).same (Mod.of_below hb3 _), fun _ g => .inl g, by omega, fun k hk => by have := hr.lt hk; omega, by omega, by omega⟩
  have HPQ : Hid (∀ V bx R' k n y r' pc', DV w V bx ⟨36, d, a, b, imm⟩ db rb lv R R' r' pc' → (⟨k, n, y, r', pc', rpgs R'⟩ : Out) = (faults (rpgs R) r pc 50) → SdStPost w db rb lv R (faults (rpgs R) r pc 50) (.returned (stopV k n y)) (((V.setCell ⟨w.heap.size, 0, none⟩ (.int .u8 k)).setCell ⟨w.heap.size, 1, none⟩ (.int .u32 n)).setCell ⟨w.heap.size, 2, none⟩ (.int .i64 y))) := Lib.hid fun V bx R' k n y r' pc' h e => by rw [← e]; exact h.fin k n y
  generalize SdStPost w db rb lv R (faults (rpgs R) r pc 50) = PQ at *
  generalize strOfNums (Sp.getL (rpgs R) pc 8) = S at *
  have hnx : IntKind.u32.wrap (pc + 8) = next pc := by rw [IntKind.wrap_u32']; rfl
  clear hn hbW hE hf hF hd hx
  unfold Ins.val at HD
  simp only at HD
  go_enter Tryz.func29, Tryz.ntmps29
  go_wp2_with fail
  refine HF.out.mono ?_
  rintro e w1 ⟨rfl, hb1⟩
  have HR1 := Lib.hid (HR.out.frame (hb1.block _ (by simp)))
  have HB1 := Lib.hid (below_th HB.out hb1)
  clear hb1
  go_wp2_with fail
  refine (HD.out _).mono ?_
  rintro e w2 ⟨rfl, hb2⟩
  have hs1 := HR1.out.blk
  have hR2 := HR1.out.frame (hb2.block _ (lt_of_block hs1))
  have hB2 := below_th HB1.out hb2
  have hdv := HDV.out w2 hB2 hR2
  have hq1 := (hc.below hB2).cellPc
  have hq2 : db < w2.heap.size := (hc.below hB2).lt
  unfold insCells at hdv
  simp only at hdv
  clear hb2 hs1 HDV HD HF HR HR1 HB HB1
  generalize hW3 : w2.alloc (.cells #[.int .u8 36, .int .u8 d, .int .u8 a, .int .u8 b, .int .u32 imm] 91) = w3 at *
  have H3 := Lib.hid hdv
  obtain ⟨y0, y1, y2, y3, y4⟩ := hdv.cells
  simp only at y0 y1 y2 y3 y4
  have z0 := hdv.cpu.cellPc
  have z1 := hdv.cpu.cellReg a ha
  have z2 := hdv.cpu.cellReg b hb
  have z3 := hdv.cpu.thaw 16
  clear hdv hR2 hB2 hq1 hq2
  go_wp2_with fail
  refine (HMem.out _ H3.out.cpu H3.out.rsp).mono ?_
  rintro e w5 ⟨R5, rfl, hc5, hR5, hs5⟩
  have hdv := H3.out.setR hc5 hs5
  have HR5 := Lib.hid hR5
  clear hR5
  obtain ⟨y0, y1, y2, y3, y4⟩ := hdv.cells
  simp only at y0 y1 y2 y3 y4
  have H5 := Lib.hid hdv
  have hne : w.heap.size ≠ db := by have := hdv.nb.2.2.1; omega
  clear hdv hc5 hs5 H3 z0 z1 z2 z3 HMem
  go_wp2_with fail
  refine (faultD 50 _).mono ?_
  rintro e w6 ⟨rfl, hb6⟩
  have hdv := H5.out.below hb6
  obtain ⟨c0, c1, c2, f0, f1, f2⟩ := hdv.rs.cells
  have H6 := Lib.hid hdv
  clear hdv hb6
  go_wp2
  refine bodyPost_ret (v := stopV 2 0 50) (by simp [results, Tryz.results29, go_sem, stopV, *]) rfl ?_
  exact HPQ.out _ _ _ 2 0 50 _ _ H6.out (by rw [HR5.out]; rfl)
end
end Cp
end Go.Proofs.YtldmglodjafklaaGreat

