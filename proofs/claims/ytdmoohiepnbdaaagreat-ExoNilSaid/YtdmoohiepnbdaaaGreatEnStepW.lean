/- StepW, CpuW in one text. -/
import Derived.Test.YtdmoohiepnbdaaaGreatEnWrkW
import Derived.Test.YtdmoohiepnbdaaaGreatEnFind
namespace Go.Proofs.YtdmoohiepnbdaaaGreat
open Go.RowKit Word
set_option linter.unusedVariables false
namespace Cp
def StPost (w : World) (cb sb mb : Nat) (A : List Pg) (o : Out) (e : Ending) (w' : World) : Prop :=
  e = .returned o.stop ∧ Cpu 281 w' cb o.r o.pc ∧ Spc w' sb mb o.A ∧ Mod (fun k => k = cb ∨ Sp.pgBlk A k) w w'
def stopV (k n y : Int) : Value := .agg #[.int .u8 k, .int .u32 n, .int .i64 y]
section
variable {w : World} {cb sb mb : Nat} {A : List Pg} {r : List Int} {pc : Int}
theorem fetch_no (hf : Sp.fitsB A pc 8 4 = false) : Sp.getE A pc 8 4 = 50 := by
  unfold Sp.getE
  rw [if_neg (by omega)]
  exact Sp.fitsE_no hf
theorem fetch_yes (hf : Sp.fitsB A pc 8 4 = true) : Sp.getE A pc 8 4 = 0 ∧ Sp.getS A pc 8 4 = strOfNums (Sp.getL A pc 8) := by
  unfold Sp.getE Sp.getS
  rw [if_neg (by omega), if_neg (by omega)]
  refine ⟨Sp.fitsE_yes hf, ?_⟩
  show (if Sp.fitsB A pc 8 4 = true then _ else _) = _
  rw [if_pos hf]
  rfl
structure RsBox (W : World) (b : Nat) : Prop where
  blk : W.heap[b]? = some (.cells #[.int .u8 0, .int .u32 0, .int .i64 0] 193 (0, 0))
theorem RsBox.frame {W w' : World} {b : Nat} (h : RsBox W b) (e : w'.heap[b]? = W.heap[b]?) : RsBox w' b := ⟨e.trans h.blk⟩
theorem RsBox.cells {W : World} {b : Nat} (h : RsBox W b) : W.cell? ⟨b, 0, none⟩ = some (.int .u8 0) ∧ W.cell? ⟨b, 1, none⟩ = some (.int .u32 0) ∧ W.cell? ⟨b, 2, none⟩ = some (.int .i64 0) ∧ W.frozen? ⟨b, 0, none⟩ = false ∧ W.frozen? ⟨b, 1, none⟩ = false ∧ W.frozen? ⟨b, 2, none⟩ = false := by
  unfold World.cell? World.frozen?
  rw [h.blk]
  exact ⟨rfl, rfl, rfl, rfl, rfl, rfl⟩
theorem below_set3 {B : Nat} {a W : World} (h : Below B a W) {b : Nat} (hb : B ≤ b) (x y z : Value) : Below B a (((W.setCell ⟨b, 0, none⟩ x).setCell ⟨b, 1, none⟩ y).setCell ⟨b, 2, none⟩ z) :=
  ((h.setCell hb _).setCell hb _).setCell hb _
set_option maxRecDepth 100000 in
theorem step_fault (hc : Cpu 281 w cb r pc) (hs : Spc w sb mb A) (hf : Sp.fitsB A pc 8 4 = false) :
    Calls Tryz.prog 181 #[.pointer (some ⟨cb, 0, none⟩), .pointer (some ⟨sb, 0, none⟩)] w fun e w' => e = .returned (stopV 2 0 50) ∧ Below w.heap.size w w' := by
  have hE := fetch_no hf
  have hbW : Below w.heap.size w (w.alloc (.cells #[.int .u8 0, .int .u32 0, .int .i64 0] 193)) := (Below.refl _ _).alloc (Nat.le_refl _) _
  have hcp := (hc.below hbW).cellPc
  have hF := Sp.fetch (hs.below hbW fun _ hk => hs.lt hk) pc hc.p0 hc.p1
  rw [hE] at hF
  have HF := Lib.hid hF
  have HB := Lib.hid hbW
  have HR := Lib.hid (⟨heap_alloc_new w _⟩ : RsBox (w.alloc (.cells #[.int .u8 0, .int .u32 0, .int .i64 0] 193)) w.heap.size)
  clear hc hs hbW hE hf hF
  go_enter Tryz.func181, Tryz.ntmps181
  go_wp2_with fail
  refine HF.out.mono ?_
  rintro e w1 ⟨rfl, hb1⟩
  obtain ⟨c0, c1, c2, f0, f1, f2⟩ := (HR.out.frame (hb1.block _ (by simp))).cells
  have HB1 := Lib.hid (below_th HB.out hb1)
  clear hb1
  go_wp2
  refine bodyPost_ret (v := stopV 2 0 50) (by simp [results, Tryz.results181, go_sem, stopV, *]) rfl ⟨rfl, below_set3 HB1.out (Nat.le_refl _) _ _ _⟩
set_option maxRecDepth 100000 in
theorem step_form (hc : Cpu 281 w cb r pc) (hs : Spc w sb mb A) (hf : Sp.fitsB A pc 8 4 = true) (hd : Ins.decB (strOfNums (Sp.getL A pc 8)) = false) :
    Calls Tryz.prog 181 #[.pointer (some ⟨cb, 0, none⟩), .pointer (some ⟨sb, 0, none⟩)] w fun e w' => e = .returned (stopV 2 0 7) ∧ Below w.heap.size w w' := by
  have hE := fetch_yes hf
  have hbW : Below w.heap.size w (w.alloc (.cells #[.int .u8 0, .int .u32 0, .int .i64 0] 193)) := (Below.refl _ _).alloc (Nat.le_refl _) _
  have hcp := (hc.below hbW).cellPc
  have hF := Sp.fetch (hs.below hbW fun _ hk => hs.lt hk) pc hc.p0 hc.p1
  rw [hE.1, hE.2] at hF
  have HF := Lib.hid hF
  have HB := Lib.hid hbW
  have HR := Lib.hid (⟨heap_alloc_new w _⟩ : RsBox (w.alloc (.cells #[.int .u8 0, .int .u32 0, .int .i64 0] 193)) w.heap.size)
  have HD : Hid (∀ W, Calls Tryz.prog 233 #[.string (strOfNums (Sp.getL A pc 8))] W fun e w' => e = .returned (.tuple #[Ins.nix.val, .int .i64 7]) ∧ Below W.heap.size W w') := Lib.hid fun W => by
    have h := Ins.decode (strOfNums (Sp.getL A pc 8)) (by rw [size_strOfNums, Sp.getL_length]; omega) W
    unfold Ins.decX Ins.decE at h
    rw [hd] at h
    exact h
  generalize strOfNums (Sp.getL A pc 8) = S at *
  clear hc hs hbW hE hf hF hd
  go_enter Tryz.func181, Tryz.ntmps181
  go_wp2_with fail
  refine HF.out.mono ?_
  rintro e w1 ⟨rfl, hb1⟩
  have HR1 := Lib.hid (HR.out.frame (hb1.block _ (by simp)))
  have HB1 := Lib.hid (below_th HB.out hb1)
  clear hb1
  go_wp2_with fail
  refine (HD.out _).mono ?_
  rintro e w2 ⟨rfl, hb2⟩
  have hs1 := HR1.out.blk
  have HR2 := Lib.hid (HR1.out.frame (hb2.block _ (lt_of_block hs1)))
  have HB2 := Lib.hid (below_th HB1.out hb2)
  have hlt := lt_of_block HR2.out.blk
  have HA : Hid (∀ o, RsBox (w2.alloc o) w.heap.size ∧ Below w.heap.size w (w2.alloc o)) := Lib.hid fun o => ⟨HR2.out.frame (Below.heap_alloc _ _ _ hlt), HB2.out.alloc HB2.out.size _⟩
  clear hb2 hs1
  unfold Ins.nix Ins.val
  simp only
  obtain ⟨c0, c1, c2, f0, f1, f2⟩ := HR2.out.cells
  go_wp2
  refine bodyPost_ret (v := stopV 2 0 7) (by simp [results, Tryz.results181, go_sem, stopV, *]) rfl ⟨rfl, (below_set3 HB2.out (Nat.le_refl _) _ _ _).alloc (Nat.le_trans HB2.out.size (by simp)) _⟩
end
end Cp
end Go.Proofs.YtdmoohiepnbdaaaGreat
namespace Go.Proofs.YtdmoohiepnbdaaaGreat
open Go.RowKit Word
set_option linter.unusedVariables false
namespace Cp
section
variable {w : World} {cb sb mb : Nat} {A : List Pg} {r : List Int} {pc : Int}
def insCells (x : Ins) : Array Value := #[.int .u8 x.op, .int .u8 x.d, .int .u8 x.a, .int .u8 x.b, .int .u32 x.imm]
def doW (w2 : World) (cb sb : Nat) (pc : Int) (x : Ins) : World := (w2.alloc (.cells (insCells x) 148)).alloc (.cells #[.pointer (some ⟨cb, 0, none⟩), .pointer (some ⟨sb, 0, none⟩), .int .u32 (next pc), .int .i64 0] 398)
theorem doW_ws {w2 : World} (hc : Cpu 281 w2 cb r pc) (hs : Spc w2 sb mb A) (hn : ¬ Spc.foot sb mb A cb) (x : Ins) : WS (doW w2 cb sb pc x) (w2.heap.size + 1) cb sb mb A r pc (next pc) 0 := by
  have hb : Below w2.heap.size w2 (doW w2 cb sb pc x) := ((Below.refl _ _).alloc (Nat.le_refl _) _).alloc (by simp) _
  have h := heap_alloc_new (w2.alloc (.cells (insCells x) 148)) (.cells #[.pointer (some ⟨cb, 0, none⟩), .pointer (some ⟨sb, 0, none⟩), .int .u32 (next pc), .int .i64 0] 398)
  rw [show (w2.alloc (.cells (insCells x) 148)).heap.size = w2.heap.size + 1 by simp] at h
  exact ⟨⟨h, (next_bd pc).1, (next_bd pc).2⟩, hc.below hb, hs.below hb fun _ hk => hs.lt hk, by have := hc.lt; omega, hn, fun g => by have := hs.lt g; omega⟩
structure After (w w2 w4 : World) (cb : Nat) (A : List Pg) (x : Ins) : Prop where
  rs : RsBox w4 w.heap.size
  bx : w4.heap[w2.heap.size]? = some (.cells (insCells x) 148 (0, 0))
  mod : Mod (fun k => k = cb ∨ Sp.pgBlk A k) w w4
theorem after {w2 w3 w4 : World} (hb : Below w.heap.size w w2) (hr : RsBox w2 w.heap.size) (hc : Cpu 281 w cb r pc) (hs : Spc w sb mb A) (x : Ins) (hb3 : Below (doW w2 cb sb pc x).heap.size (doW w2 cb sb pc x) w3) (hm : Mod (fun k => k = cb ∨ k = w2.heap.size + 1 ∨ Sp.pgBlk A k) w3 w4) : After w w2 w4 cb A x := by
  have h1 := lt_of_block hr.blk
  have h2 := hc.lt
  have hp : ∀ k, Sp.pgBlk A k → k < w.heap.size := fun k hk => hs.lt (.inr (.inr hk))
  have hsz : (doW w2 cb sb pc x).heap.size = w2.heap.size + 2 := by simp [doW]
  have hs3 := hb3.size
  have hwb : Below w2.heap.size w2 (doW w2 cb sb pc x) := ((Below.refl _ _).alloc (Nat.le_refl _) _).alloc (by simp) _
  refine ⟨⟨?_⟩, ?_, ?_⟩
  · rw [hm.block w.heap.size (by omega) (by rintro (g | g | g); omega; omega; have := hp _ g; omega), hb3.block _ (by omega), hwb.block _ h1]
    exact hr.blk
  · rw [hm.block w2.heap.size (by omega) (by rintro (g | g | g); omega; omega; have := hp _ g; omega), hb3.block _ (by omega)]
    exact (Below.heap_alloc _ _ _ (by simp)).trans (heap_alloc_new w2 _)
  · exact (((Mod.of_below hb _).same (Mod.of_below hwb _)).same (Mod.of_below hb3 _)).trans hm fun i hi g => by
      rcases g with g | g | g
      · exact .inl (.inl g)
      · exact .inr (by omega)
      · exact .inl (.inr g)
theorem doW_box {w2 w3 : World} (x : Ins) (hb3 : Below (doW w2 cb sb pc x).heap.size (doW w2 cb sb pc x) w3) : w3.heap[w2.heap.size]? = some (.cells (insCells x) 148 (0, 0)) :=
  (hb3.block _ (by simp [doW]; omega)).trans ((Below.heap_alloc _ _ _ (by simp)).trans (heap_alloc_new w2 _))
theorem box_cells {W : World} {b : Nat} {x : Ins} (h : W.heap[b]? = some (.cells (insCells x) 148 (0, 0))) : W.cell? ⟨b, 0, none⟩ = some (.int .u8 x.op) ∧ W.cell? ⟨b, 1, none⟩ = some (.int .u8 x.d) ∧ W.cell? ⟨b, 2, none⟩ = some (.int .u8 x.a) ∧ W.cell? ⟨b, 3, none⟩ = some (.int .u8 x.b) ∧ W.cell? ⟨b, 4, none⟩ = some (.int .u32 x.imm) := by
  unfold World.cell?
  rw [h]
  exact ⟨rfl, rfl, rfl, rfl, rfl⟩
theorem set3_cpu {V : World} {cb b : Nat} {r : List Int} {pc : Int} (h : Cpu 281 V cb r pc) (hne : cb ≠ b) (x y z : Value) : Cpu 281 (((V.setCell ⟨b, 0, none⟩ x).setCell ⟨b, 1, none⟩ y).setCell ⟨b, 2, none⟩ z) cb r pc :=
  h.frame (by rw [Below.heap_setCell _ _ _ _ hne, Below.heap_setCell _ _ _ _ hne, Below.heap_setCell _ _ _ _ hne])
theorem set3_spc {V : World} {sb mb b : Nat} {A : List Pg} (h : Spc V sb mb A) (hne : ∀ k, Spc.foot sb mb A k → k ≠ b) (x y z : Value) : Spc (((V.setCell ⟨b, 0, none⟩ x).setCell ⟨b, 1, none⟩ y).setCell ⟨b, 2, none⟩ z) sb mb A :=
  h.frame fun k hk => by rw [Below.heap_setCell _ _ _ _ (hne k hk), Below.heap_setCell _ _ _ _ (hne k hk), Below.heap_setCell _ _ _ _ (hne k hk)]
theorem set3_mod {F : Nat → Prop} {a V : World} (h : Mod F a V) {b : Nat} (hb : a.heap.size ≤ b) (x y z : Value) : Mod F a (((V.setCell ⟨b, 0, none⟩ x).setCell ⟨b, 1, none⟩ y).setCell ⟨b, 2, none⟩ z) :=
  ((h.setCell _ (.inr hb) _).setCell _ (.inr hb) _).setCell _ (.inr hb) _
theorem setPc_spc {V : World} {sb mb cb : Nat} {A : List Pg} (h : Spc V sb mb A) (hne : ¬ Spc.foot sb mb A cb) (v : Value) : Spc (V.setCell ⟨cb, 16, none⟩ v) sb mb A :=
  h.frame fun k hk => Below.heap_setCell _ _ _ _ (fun e => hne (by have e' : k = cb := e; rw [← e']; exact hk))
theorem nilFn (k : Nat) (w : World) : (binOp .neq 400 (.func (.func k) #[] #[]) .nilFunc).run Tryz.prog w = .ok (.bool true) w := by kernel_rfl
theorem nilFn0 (w : World) : (binOp .neq 400 .nilFunc .nilFunc).run Tryz.prog w = .ok (.bool false) w := by kernel_rfl
set_option maxRecDepth 100000 in
set_option maxHeartbeats 1000000 in
theorem step_do (hc : Cpu 281 w cb r pc) (hs : Spc w sb mb A) (hn : ¬ Spc.foot sb mb A cb) (hf : Sp.fitsB A pc 8 4 = true) (x : Ins) (hd : Ins.decB (strOfNums (Sp.getL A pc 8)) = true) (hx : Ins.decI (strOfNums (Sp.getL A pc 8)) = x) (h50 : (x.op == 50) = false)
    (k : Nat) (henter : ∀ args W, (callFunc k args).run Tryz.prog W = .ok (.enter k args) W) (hfind : ∀ W, Calls Tryz.prog 234 #[.int .u8 x.op] W fun e w' => e = .returned (.func (.func k) #[] #[]) ∧ Below W.heap.size W w')
    (A' : List Pg) (hft : ∀ k, Spc.foot sb mb A' k → Spc.foot sb mb A k) (r' : List Int) (nx' : Int) (hdo : ∀ W wb, WS W wb cb sb mb A r pc (next pc) 0 → Calls Tryz.prog k #[.pointer (some ⟨wb, 0, none⟩), x.val] W (WkPost W wb cb sb mb A A' r' pc nx' 0)) :
    Calls Tryz.prog 181 #[.pointer (some ⟨cb, 0, none⟩), .pointer (some ⟨sb, 0, none⟩)] w (StPost w cb sb mb A (goes A' r' nx')) := by
  have hE := fetch_yes hf
  have hbW : Below w.heap.size w (w.alloc (.cells #[.int .u8 0, .int .u32 0, .int .i64 0] 193)) := (Below.refl _ _).alloc (Nat.le_refl _) _
  have hcp := (hc.below hbW).cellPc
  have hF := Sp.fetch (hs.below hbW fun _ hk => hs.lt hk) pc hc.p0 hc.p1
  rw [hE.1, hE.2] at hF
  have HF := Lib.hid hF
  have HB := Lib.hid hbW
  have HR := Lib.hid (⟨heap_alloc_new w _⟩ : RsBox (w.alloc (.cells #[.int .u8 0, .int .u32 0, .int .i64 0] 193)) w.heap.size)
  have HD : Hid (∀ W, Calls Tryz.prog 233 #[.string (strOfNums (Sp.getL A pc 8))] W fun e w' => e = .returned (.tuple #[x.val, .int .i64 0]) ∧ Below W.heap.size W w') := Lib.hid fun W => by
    have h := Ins.decode (strOfNums (Sp.getL A pc 8)) (by rw [size_strOfNums, Sp.getL_length]; omega) W
    unfold Ins.decX Ins.decE at h
    rw [hd, hx] at h
    exact h
  have HFin : Hid (∀ w', Cpu 281 w' cb r' nx' → Spc w' sb mb A' → Mod (fun k => k = cb ∨ Sp.pgBlk A k) w w' → StPost w cb sb mb A (goes A' r' nx') (.returned (stopV 0 0 0)) w') := Lib.hid fun w' g1 g2 g3 => ⟨rfl, g1, g2, g3⟩
  generalize StPost w cb sb mb A (goes A' r' nx') = PQ at *
  generalize strOfNums (Sp.getL A pc 8) = S at *
  have hnf := nilFn k
  have HFt : Hid (∀ k, Spc.foot sb mb A' k → k ≠ w.heap.size) := Lib.hid fun k hk => by have := hs.lt (hft k hk); omega
  have HC := Lib.hid hc
  have HS := Lib.hid hs
  have HN := Lib.hid hn
  have HFd := Lib.hid hfind
  have HDo := Lib.hid hdo
  have hnx : IntKind.u32.wrap (pc + 8) = next pc := by rw [IntKind.wrap_u32']; rfl
  clear hc hs hn hbW hE hf hF hd hx hfind hdo hft
  obtain ⟨op, d, a, b, imm⟩ := x
  simp only at h50
  unfold Ins.val at HD HDo
  simp only at HD HDo HFd
  go_enter Tryz.func181, Tryz.ntmps181
  go_wp2_with fail
  refine HF.out.mono ?_
  rintro e w1 ⟨rfl, hb1⟩
  have HR1 := Lib.hid (HR.out.frame (hb1.block _ (by simp)))
  have HB1 := Lib.hid (below_th HB.out hb1)
  clear hb1
  go_wp2_with fail
  refine (HD.out _).mono ?_
  rintro e w2 ⟨rfl, hb2⟩
  have hs1 := HR1.out.blk
  have HR2 := Lib.hid (HR1.out.frame (hb2.block _ (lt_of_block hs1)))
  have HB2 := Lib.hid (below_th HB1.out hb2)
  have hq1 := (HC.out.below HB2.out).cellPc
  have hq2 := HC.out.lt
  have hq3 := HB2.out.size
  have hq4 : cb < w2.heap.size := by omega
  clear hb2 hs1
  go_wp2_with fail
  refine (HFd.out _).mono ?_
  rintro e w3 ⟨rfl, hb3⟩
  have hb3' : Below (doW w2 cb sb pc ⟨op, d, a, b, imm⟩).heap.size (doW w2 cb sb pc ⟨op, d, a, b, imm⟩) w3 := hb3
  have HB3 := Lib.hid hb3'
  have HW3 := Lib.hid ((doW_ws (HC.out.below HB2.out) (HS.out.below HB2.out fun _ hk => HS.out.lt hk) HN.out ⟨op, d, a, b, imm⟩).below hb3')
  obtain ⟨y0, y1, y2, y3, y4⟩ := box_cells (doW_box ⟨op, d, a, b, imm⟩ hb3')
  simp only at y0 y1 y2 y3 y4
  clear hb3 hb3'
  go_wp2_with fail
  refine (HDo.out w3 _ HW3.out).mono ?_
  rintro e w4 ⟨rfl, hw4, hm4⟩
  have ha := after HB2.out HR2.out HC.out HS.out ⟨op, d, a, b, imm⟩ HB3.out hm4
  have z2 := hw4.cell2
  have z3 := hw4.cell3
  have zp := hw4.cp.cellPc
  have zf := hw4.cp.thaw 16
  obtain ⟨x0, _, _, _, x4⟩ := box_cells ha.bx
  simp only at x0 x4
  obtain ⟨c0, c1, c2, f0, f1, f2⟩ := ha.rs.cells
  have hbc : w.heap.size ≠ cb := by have := HC.out.lt; omega
  have hbb : w2.heap.size ≠ cb := by omega
  have HW4 := Lib.hid hw4
  have HA := Lib.hid ha
  clear hw4 hm4 ha y0 y1 y2 y3 y4 hq1 hq2 hq3 hq4
  go_wp2
  refine bodyPost_ret (v := stopV 0 0 0) (by simp [results, Tryz.results181, go_sem, stopV, *]) rfl ?_
  exact HFin.out _ (set3_cpu (HW4.out.cp.setPc nx' HW4.out.wk.n0 HW4.out.wk.n1) (fun e => hbc e.symm) _ _ _) (set3_spc (setPc_spc HW4.out.sp HW4.out.n2 _) HFt.out _ _ _) (set3_mod (HA.out.mod.setCell _ (.inl (.inl rfl)) _) (Nat.le_refl _) _ _ _)
set_option maxRecDepth 100000 in
set_option maxHeartbeats 1000000 in
theorem step_dof (hc : Cpu 281 w cb r pc) (hs : Spc w sb mb A) (hn : ¬ Spc.foot sb mb A cb) (hf : Sp.fitsB A pc 8 4 = true) (x : Ins) (hd : Ins.decB (strOfNums (Sp.getL A pc 8)) = true) (hx : Ins.decI (strOfNums (Sp.getL A pc 8)) = x) (h50 : (x.op == 50) = false)
    (k : Nat) (henter : ∀ args W, (callFunc k args).run Tryz.prog W = .ok (.enter k args) W) (hfind : ∀ W, Calls Tryz.prog 234 #[.int .u8 x.op] W fun e w' => e = .returned (.func (.func k) #[] #[]) ∧ Below W.heap.size W w')
    (A' : List Pg) (hft : ∀ k, Spc.foot sb mb A' k → Spc.foot sb mb A k) (r' : List Int) (nx' : Int) (hdo : ∀ W wb, WS W wb cb sb mb A r pc (next pc) 0 → Calls Tryz.prog k #[.pointer (some ⟨wb, 0, none⟩), x.val] W (WkPost W wb cb sb mb A A' r' pc nx' 50)) :
    Calls Tryz.prog 181 #[.pointer (some ⟨cb, 0, none⟩), .pointer (some ⟨sb, 0, none⟩)] w (StPost w cb sb mb A (faults A' r' pc 50)) := by
  have hE := fetch_yes hf
  have hbW : Below w.heap.size w (w.alloc (.cells #[.int .u8 0, .int .u32 0, .int .i64 0] 193)) := (Below.refl _ _).alloc (Nat.le_refl _) _
  have hcp := (hc.below hbW).cellPc
  have hF := Sp.fetch (hs.below hbW fun _ hk => hs.lt hk) pc hc.p0 hc.p1
  rw [hE.1, hE.2] at hF
  have HF := Lib.hid hF
  have HB := Lib.hid hbW
  have HR := Lib.hid (⟨heap_alloc_new w _⟩ : RsBox (w.alloc (.cells #[.int .u8 0, .int .u32 0, .int .i64 0] 193)) w.heap.size)
  have HD : Hid (∀ W, Calls Tryz.prog 233 #[.string (strOfNums (Sp.getL A pc 8))] W fun e w' => e = .returned (.tuple #[x.val, .int .i64 0]) ∧ Below W.heap.size W w') := Lib.hid fun W => by
    have h := Ins.decode (strOfNums (Sp.getL A pc 8)) (by rw [size_strOfNums, Sp.getL_length]; omega) W
    unfold Ins.decX Ins.decE at h
    rw [hd, hx] at h
    exact h
  have HFin : Hid (∀ w', Cpu 281 w' cb r' pc → Spc w' sb mb A' → Mod (fun k => k = cb ∨ Sp.pgBlk A k) w w' → StPost w cb sb mb A (faults A' r' pc 50) (.returned (stopV 2 0 50)) w') := Lib.hid fun w' g1 g2 g3 => ⟨rfl, g1, g2, g3⟩
  generalize StPost w cb sb mb A (faults A' r' pc 50) = PQ at *
  generalize strOfNums (Sp.getL A pc 8) = S at *
  have hnf := nilFn k
  have HFt : Hid (∀ k, Spc.foot sb mb A' k → k ≠ w.heap.size) := Lib.hid fun k hk => by have := hs.lt (hft k hk); omega
  have HC := Lib.hid hc
  have HS := Lib.hid hs
  have HN := Lib.hid hn
  have HFd := Lib.hid hfind
  have HDo := Lib.hid hdo
  have hnx : IntKind.u32.wrap (pc + 8) = next pc := by rw [IntKind.wrap_u32']; rfl
  clear hc hs hn hbW hE hf hF hd hx hfind hdo hft
  obtain ⟨op, d, a, b, imm⟩ := x
  simp only at h50
  unfold Ins.val at HD HDo
  simp only at HD HDo HFd
  go_enter Tryz.func181, Tryz.ntmps181
  go_wp2_with fail
  refine HF.out.mono ?_
  rintro e w1 ⟨rfl, hb1⟩
  have HR1 := Lib.hid (HR.out.frame (hb1.block _ (by simp)))
  have HB1 := Lib.hid (below_th HB.out hb1)
  clear hb1
  go_wp2_with fail
  refine (HD.out _).mono ?_
  rintro e w2 ⟨rfl, hb2⟩
  have hs1 := HR1.out.blk
  have HR2 := Lib.hid (HR1.out.frame (hb2.block _ (lt_of_block hs1)))
  have HB2 := Lib.hid (below_th HB1.out hb2)
  have hq1 := (HC.out.below HB2.out).cellPc
  have hq2 := HC.out.lt
  have hq3 := HB2.out.size
  have hq4 : cb < w2.heap.size := by omega
  clear hb2 hs1
  go_wp2_with fail
  refine (HFd.out _).mono ?_
  rintro e w3 ⟨rfl, hb3⟩
  have hb3' : Below (doW w2 cb sb pc ⟨op, d, a, b, imm⟩).heap.size (doW w2 cb sb pc ⟨op, d, a, b, imm⟩) w3 := hb3
  have HB3 := Lib.hid hb3'
  have HW3 := Lib.hid ((doW_ws (HC.out.below HB2.out) (HS.out.below HB2.out fun _ hk => HS.out.lt hk) HN.out ⟨op, d, a, b, imm⟩).below hb3')
  obtain ⟨y0, y1, y2, y3, y4⟩ := box_cells (doW_box ⟨op, d, a, b, imm⟩ hb3')
  simp only at y0 y1 y2 y3 y4
  clear hb3 hb3'
  go_wp2_with fail
  refine (HDo.out w3 _ HW3.out).mono ?_
  rintro e w4 ⟨rfl, hw4, hm4⟩
  have ha := after HB2.out HR2.out HC.out HS.out ⟨op, d, a, b, imm⟩ HB3.out hm4
  have z2 := hw4.cell2
  have z3 := hw4.cell3
  have zp := hw4.cp.cellPc
  have zf := hw4.cp.thaw 16
  obtain ⟨x0, _, _, _, x4⟩ := box_cells ha.bx
  simp only at x0 x4
  obtain ⟨c0, c1, c2, f0, f1, f2⟩ := ha.rs.cells
  have hbc : w.heap.size ≠ cb := by have := HC.out.lt; omega
  have hbb : w2.heap.size ≠ cb := by omega
  have HW4 := Lib.hid hw4
  have HA := Lib.hid ha
  clear hw4 hm4 ha y0 y1 y2 y3 y4 hq1 hq2 hq3 hq4
  go_wp2
  refine bodyPost_ret (v := stopV 2 0 50) (by simp [results, Tryz.results181, go_sem, stopV, *]) rfl ?_
  exact HFin.out _ (set3_cpu HW4.out.cp (fun e => hbc e.symm) _ _ _) (set3_spc HW4.out.sp HFt.out _ _ _) (set3_mod HA.out.mod (Nat.le_refl _) _ _ _)
set_option maxRecDepth 100000 in
set_option maxHeartbeats 1000000 in
theorem step_sys (hc : Cpu 281 w cb r pc) (hs : Spc w sb mb A) (hn : ¬ Spc.foot sb mb A cb) (hf : Sp.fitsB A pc 8 4 = true) (x : Ins) (hd : Ins.decB (strOfNums (Sp.getL A pc 8)) = true) (hx : Ins.decI (strOfNums (Sp.getL A pc 8)) = x) (h50 : (x.op == 50) = true)
    (hfind : ∀ W, Calls Tryz.prog 234 #[.int .u8 x.op] W fun e w' => e = .returned .nilFunc ∧ Below W.heap.size W w') :
    Calls Tryz.prog 181 #[.pointer (some ⟨cb, 0, none⟩), .pointer (some ⟨sb, 0, none⟩)] w (StPost w cb sb mb A ⟨1, x.imm, 0, r, next pc, A⟩) := by
  have hE := fetch_yes hf
  have hbW : Below w.heap.size w (w.alloc (.cells #[.int .u8 0, .int .u32 0, .int .i64 0] 193)) := (Below.refl _ _).alloc (Nat.le_refl _) _
  have hcp := (hc.below hbW).cellPc
  have hF := Sp.fetch (hs.below hbW fun _ hk => hs.lt hk) pc hc.p0 hc.p1
  rw [hE.1, hE.2] at hF
  have HF := Lib.hid hF
  have HB := Lib.hid hbW
  have HR := Lib.hid (⟨heap_alloc_new w _⟩ : RsBox (w.alloc (.cells #[.int .u8 0, .int .u32 0, .int .i64 0] 193)) w.heap.size)
  have HD : Hid (∀ W, Calls Tryz.prog 233 #[.string (strOfNums (Sp.getL A pc 8))] W fun e w' => e = .returned (.tuple #[x.val, .int .i64 0]) ∧ Below W.heap.size W w') := Lib.hid fun W => by
    have h := Ins.decode (strOfNums (Sp.getL A pc 8)) (by rw [size_strOfNums, Sp.getL_length]; omega) W
    unfold Ins.decX Ins.decE at h
    rw [hd, hx] at h
    exact h
  have HFin : Hid (∀ w', Cpu 281 w' cb r (next pc) → Spc w' sb mb A → Mod (fun k => k = cb ∨ Sp.pgBlk A k) w w' → StPost w cb sb mb A ⟨1, x.imm, 0, r, next pc, A⟩ (.returned (stopV 1 x.imm 0)) w') := Lib.hid fun w' g1 g2 g3 => ⟨rfl, g1, g2, g3⟩
  generalize StPost w cb sb mb A ⟨1, x.imm, 0, r, next pc, A⟩ = PQ at *
  generalize strOfNums (Sp.getL A pc 8) = S at *
  have hnf := nilFn0
  have HFt : Hid (∀ k, Spc.foot sb mb A k → k ≠ w.heap.size) := Lib.hid fun k hk => by have := hs.lt hk; omega
  have HC := Lib.hid hc
  have HS := Lib.hid hs
  have HN := Lib.hid hn
  have HFd := Lib.hid hfind
  have hnx : IntKind.u32.wrap (pc + 8) = next pc := by rw [IntKind.wrap_u32']; rfl
  clear hc hs hn hbW hE hf hF hd hx hfind
  obtain ⟨op, d, a, b, imm⟩ := x
  simp only at h50
  unfold Ins.val at HD
  simp only at HD HFd HFin
  go_enter Tryz.func181, Tryz.ntmps181
  go_wp2_with fail
  refine HF.out.mono ?_
  rintro e w1 ⟨rfl, hb1⟩
  have HR1 := Lib.hid (HR.out.frame (hb1.block _ (by simp)))
  have HB1 := Lib.hid (below_th HB.out hb1)
  clear hb1
  go_wp2_with fail
  refine (HD.out _).mono ?_
  rintro e w2 ⟨rfl, hb2⟩
  have hs1 := HR1.out.blk
  have HR2 := Lib.hid (HR1.out.frame (hb2.block _ (lt_of_block hs1)))
  have HB2 := Lib.hid (below_th HB1.out hb2)
  have hq1 := (HC.out.below HB2.out).cellPc
  have hq2 := HC.out.lt
  have hq3 := HB2.out.size
  have hq4 : cb < w2.heap.size := by omega
  clear hb2 hs1
  go_wp2_with fail
  refine (HFd.out _).mono ?_
  rintro e w3 ⟨rfl, hb3⟩
  have hb3' : Below (doW w2 cb sb pc ⟨op, d, a, b, imm⟩).heap.size (doW w2 cb sb pc ⟨op, d, a, b, imm⟩) w3 := hb3
  have HB3 := Lib.hid hb3'
  have HW3 := Lib.hid ((doW_ws (HC.out.below HB2.out) (HS.out.below HB2.out fun _ hk => HS.out.lt hk) HN.out ⟨op, d, a, b, imm⟩).below hb3')
  obtain ⟨y0, y1, y2, y3, y4⟩ := box_cells (doW_box ⟨op, d, a, b, imm⟩ hb3')
  simp only at y0 y1 y2 y3 y4
  clear hb3 hb3'
  have ha := after HB2.out HR2.out HC.out HS.out ⟨op, d, a, b, imm⟩ HB3.out (Mod.refl _ w3)
  have hw4 := HW3.out
  have z2 := hw4.cell2
  have z3 := hw4.cell3
  have zp := hw4.cp.cellPc
  have zf := hw4.cp.thaw 16
  obtain ⟨x0, _, _, _, x4⟩ := box_cells ha.bx
  simp only at x0 x4
  obtain ⟨c0, c1, c2, f0, f1, f2⟩ := ha.rs.cells
  have hbc : w.heap.size ≠ cb := by have := HC.out.lt; omega
  have hbb : w2.heap.size ≠ cb := by omega
  have HW4 := Lib.hid hw4
  have HA := Lib.hid ha
  clear hw4 ha y0 y1 y2 y3 y4 hq1 hq2 hq3 hq4
  go_wp2
  refine bodyPost_ret (v := stopV 1 imm 0) (by simp [results, Tryz.results181, go_sem, stopV, *]) rfl ?_
  exact HFin.out _ (set3_cpu (HW4.out.cp.setPc (next pc) HW4.out.wk.n0 HW4.out.wk.n1) (fun e => hbc e.symm) _ _ _) (set3_spc (setPc_spc HW4.out.sp HW4.out.n2 _) HFt.out _ _ _) (set3_mod (HA.out.mod.setCell _ (.inl (.inl rfl)) _) (Nat.le_refl _) _ _ _)
end
end Cp
end Go.Proofs.YtdmoohiepnbdaaaGreat
namespace Go.Proofs.YtdmoohiepnbdaaaGreat
open Go.RowKit Word
set_option linter.unusedVariables false
namespace Cp
theorem uses_cases {op : Int} (h : Ins.usesV op ≠ 0) : (1 ≤ op ∧ op ≤ 14) ∨ (15 ≤ op ∧ op ≤ 30) ∨ op = 32 ∨ op = 33 ∨ op = 34 ∨ op = 35 ∨ op = 36 ∨ op = 40 ∨ op = 41 ∨ op = 42 ∨ op = 43 ∨ op = 44 ∨ op = 45 ∨ op = 46 ∨ op = 50 := by
  unfold Ins.usesV at h
  by_cases h1 : 1 ≤ op ∧ op ≤ 14
  · exact .inl h1
  rw [if_neg h1] at h
  by_cases h2 : op = 17 ∨ op = 19 ∨ op = 22 ∨ op = 23 ∨ op = 24 ∨ op = 25 ∨ op = 26 ∨ op = 29 ∨ op = 30 ∨ op = 33 ∨ op = 34
  · omega
  rw [if_neg h2] at h
  by_cases h3 : op = 32 ∨ op = 41
  · omega
  rw [if_neg h3] at h
  by_cases h4 : op = 35 ∨ op = 36 ∨ op = 43 ∨ op = 44 ∨ op = 45 ∨ op = 46
  · omega
  rw [if_neg h4] at h
  by_cases h5 : op = 40 ∨ op = 50
  · omega
  rw [if_neg h5] at h
  by_cases h6 : op = 42
  · omega
  rw [if_neg h6] at h
  exact absurd rfl h
theorem stp_eq {A : List Pg} {r : List Int} {pc : Int} (hf : Sp.fitsB A pc 8 4 = true) (hd : Ins.decB (strOfNums (Sp.getL A pc 8)) = true) : stp A r pc = exe A r pc (Ins.decI (strOfNums (Sp.getL A pc 8))) := by unfold stp; rw [if_pos hf, if_pos hd]
theorem exe_loads {A : List Pg} {r : List Int} {pc : Int} {x : Ins} {n : Nat} (h : exe A r pc x = loads A r pc x n) (hf : Sp.fitsB A (addr r x) n 1 = true) : exe A r pc x = goes A (putG r x.d (getV (Sp.getL A (addr r x) n))) (next pc) := by rw [h]; unfold loads; rw [if_pos hf]
theorem exe_loads' {A : List Pg} {r : List Int} {pc : Int} {x : Ins} {n : Nat} (h : exe A r pc x = loads A r pc x n) (hf : Sp.fitsB A (addr r x) n 1 = false) : exe A r pc x = faults A r pc 50 := by rw [h]; unfold loads; rw [hf]; rfl
theorem exe_stores {A : List Pg} {r : List Int} {pc : Int} {x : Ins} {n : Nat} (h : exe A r pc x = stores A r pc x n) (hf : Sp.fitsB A (addr r x) n 2 = true) : exe A r pc x = goes (putN A (addr r x) ((putL (rg r x.b)).take n) n) r (next pc) := by rw [h]; unfold stores; rw [if_pos hf]
theorem exe_stores' {A : List Pg} {r : List Int} {pc : Int} {x : Ins} {n : Nat} (h : exe A r pc x = stores A r pc x n) (hf : Sp.fitsB A (addr r x) n 2 = false) : exe A r pc x = faults A r pc 50 := by rw [h]; unfold stores; rw [hf]; rfl
section
variable {w : World} {cb sb mb : Nat} {A : List Pg} {r : List Int} {pc : Int}
theorem step (hc : Cpu 281 w cb r pc) (hs : Spc w sb mb A) (hn : ¬ Spc.foot sb mb A cb) :
    Calls Tryz.prog 181 #[.pointer (some ⟨cb, 0, none⟩), .pointer (some ⟨sb, 0, none⟩)] w (StPost w cb sb mb A (stp A r pc)) := by
  cases hf : Sp.fitsB A pc 8 4 with
  | false =>
    have e : stp A r pc = faults A r pc 50 := by unfold stp; rw [hf]; rfl
    rw [e]
    exact (step_fault hc hs hf).mono fun e w' ⟨g1, g2⟩ => ⟨g1, hc.below g2, hs.below g2 fun _ hk => hs.lt hk, Mod.of_below g2 _⟩
  | true =>
  cases hd : Ins.decB (strOfNums (Sp.getL A pc 8)) with
  | false =>
    have e : stp A r pc = faults A r pc 7 := by unfold stp; rw [if_pos hf, hd]; rfl
    rw [e]
    exact (step_form hc hs hf hd).mono fun e w' ⟨g1, g2⟩ => ⟨g1, hc.below g2, hs.below g2 fun _ hk => hs.lt hk, Mod.of_below g2 _⟩
  | true =>
  rw [stp_eq hf hd]
  have hm := Ins.decB_may hd
  have hok := Ins.decI_ok (Ins.decB_size hd)
  have hsm := Ins.may_small hm hok
  have hu := uses_cases (Ins.may_op hm)
  generalize hx : Ins.decI (strOfNums (Sp.getL A pc 8)) = x at *
  have o0 := hok.o0
  have o1 := hok.o1
  have i0 := hok.i0
  have i1 := hok.i1
  obtain ⟨op, d, a, b, imm⟩ := x
  obtain ⟨d0, d1, a0, a1, b0, b1⟩ := hsm
  simp only at o0 o1 i0 i1 d0 d1 a0 a1 b0 b1 hu
  obtain ⟨d, rfl⟩ := Int.eq_ofNat_of_zero_le d0
  obtain ⟨a, rfl⟩ := Int.eq_ofNat_of_zero_le a0
  obtain ⟨b, rfl⟩ := Int.eq_ofNat_of_zero_le b0
  have hd' : d < 16 := by omega
  have ha' : a < 16 := by omega
  have hb' : b < 16 := by omega
  rcases hu with hu | hu | rfl | rfl | rfl | rfl | rfl | rfl | rfl | rfl | rfl | rfl | rfl | rfl | rfl
  · have e : exe A r pc ⟨op, d, a, b, imm⟩ = goes A (putG r d (opv op (rg r a) (rg r b))) (next pc) := by unfold exe; rw [if_pos hu.2]
    rw [e]
    exact step_do hc hs hn hf _ hd hx (by simp; omega) 275 (fun _ _ => by kernel_rfl) (find3 op hu.2) A (fun _ g => g) _ _ fun W wb h => three h op d a b imm o0 o1 hd' ha' hb'
  · have e : exe A r pc ⟨op, d, a, b, imm⟩ = goes A (putG r d (opv (op - 16) (rg r a) imm)) (next pc) := by unfold exe; rw [if_neg (by simp only; omega), if_pos hu.2]
    rw [e]
    by_cases h16 : op = 15
    · subst h16
      have := Ins.may_op hm
      exact absurd rfl this
    · exact step_do hc hs hn hf _ hd hx (by simp; omega) 276 (fun _ _ => by kernel_rfl) (find2 op hu.1 hu.2) A (fun _ g => g) _ _ fun W wb h => two h op d a b imm o0 o1 i0 i1 hd' ha' hb' (by omega)
  · have e : exe A r pc ⟨32, d, a, b, imm⟩ = goes A (putG r d imm) (next pc) := rfl
    rw [e]
    exact step_do hc hs hn hf _ hd hx rfl 317 (fun _ _ => by kernel_rfl) (fun W => (find1 32 317 (by omega) (by omega) (by kernel_rfl) W).mono fun e w' ⟨g1, g2⟩ => ⟨g1.trans rfl, g2⟩) A (fun _ g => g) _ _ fun W wb h => li h 32 d a b imm o0 o1 i0 i1 hd' ha' hb'
  · have e : exe A r pc ⟨33, d, a, b, imm⟩ = loads A r pc ⟨33, d, a, b, imm⟩ 1 := rfl
    cases hq : Sp.fitsB A (addr r ⟨33, d, a, b, imm⟩) 1 1 with
    | true =>
      rw [exe_loads e hq]
      exact step_do hc hs hn hf _ hd hx rfl 318 (fun _ _ => by kernel_rfl) (fun W => (find1 33 318 (by omega) (by omega) (by kernel_rfl) W).mono fun e w' ⟨g1, g2⟩ => ⟨g1.trans rfl, g2⟩) A (fun _ g => g) _ _ fun W wb h => lb_yes h 33 d a b imm o0 o1 i0 i1 hd' ha' hb' hq
    | false =>
      rw [exe_loads' e hq]
      exact step_dof hc hs hn hf _ hd hx rfl 318 (fun _ _ => by kernel_rfl) (fun W => (find1 33 318 (by omega) (by omega) (by kernel_rfl) W).mono fun e w' ⟨g1, g2⟩ => ⟨g1.trans rfl, g2⟩) A (fun _ g => g) _ (next pc) fun W wb h => lb_no h 33 d a b imm o0 o1 i0 i1 hd' ha' hb' hq
  · have e : exe A r pc ⟨34, d, a, b, imm⟩ = loads A r pc ⟨34, d, a, b, imm⟩ 4 := rfl
    cases hq : Sp.fitsB A (addr r ⟨34, d, a, b, imm⟩) 4 1 with
    | true =>
      rw [exe_loads e hq]
      exact step_do hc hs hn hf _ hd hx rfl 319 (fun _ _ => by kernel_rfl) (fun W => (find1 34 319 (by omega) (by omega) (by kernel_rfl) W).mono fun e w' ⟨g1, g2⟩ => ⟨g1.trans rfl, g2⟩) A (fun _ g => g) _ _ fun W wb h => lw_yes h 34 d a b imm o0 o1 i0 i1 hd' ha' hb' hq
    | false =>
      rw [exe_loads' e hq]
      exact step_dof hc hs hn hf _ hd hx rfl 319 (fun _ _ => by kernel_rfl) (fun W => (find1 34 319 (by omega) (by omega) (by kernel_rfl) W).mono fun e w' ⟨g1, g2⟩ => ⟨g1.trans rfl, g2⟩) A (fun _ g => g) _ (next pc) fun W wb h => lw_no h 34 d a b imm o0 o1 i0 i1 hd' ha' hb' hq
  · have e : exe A r pc ⟨35, d, a, b, imm⟩ = stores A r pc ⟨35, d, a, b, imm⟩ 1 := rfl
    cases hq : Sp.fitsB A (addr r ⟨35, d, a, b, imm⟩) 1 2 with
    | true =>
      rw [exe_stores e hq]
      exact step_do hc hs hn hf _ hd hx rfl 320 (fun _ _ => by kernel_rfl) (fun W => (find1 35 320 (by omega) (by omega) (by kernel_rfl) W).mono fun e w' ⟨g1, g2⟩ => ⟨g1.trans rfl, g2⟩) _ (fun _ g => foot_putN.1 g) _ _ fun W wb h => sb_yes h 35 d a b imm o0 o1 i0 i1 hd' ha' hb' hq
    | false =>
      rw [exe_stores' e hq]
      exact step_dof hc hs hn hf _ hd hx rfl 320 (fun _ _ => by kernel_rfl) (fun W => (find1 35 320 (by omega) (by omega) (by kernel_rfl) W).mono fun e w' ⟨g1, g2⟩ => ⟨g1.trans rfl, g2⟩) A (fun _ g => g) _ (next pc) fun W wb h => sb_no h 35 d a b imm o0 o1 i0 i1 hd' ha' hb' hq
  · have e : exe A r pc ⟨36, d, a, b, imm⟩ = stores A r pc ⟨36, d, a, b, imm⟩ 4 := rfl
    cases hq : Sp.fitsB A (addr r ⟨36, d, a, b, imm⟩) 4 2 with
    | true =>
      rw [exe_stores e hq]
      exact step_do hc hs hn hf _ hd hx rfl 321 (fun _ _ => by kernel_rfl) (fun W => (find1 36 321 (by omega) (by omega) (by kernel_rfl) W).mono fun e w' ⟨g1, g2⟩ => ⟨g1.trans rfl, g2⟩) _ (fun _ g => foot_putN.1 g) _ _ fun W wb h => sw_yes h 36 d a b imm o0 o1 i0 i1 hd' ha' hb' hq
    | false =>
      rw [exe_stores' e hq]
      exact step_dof hc hs hn hf _ hd hx rfl 321 (fun _ _ => by kernel_rfl) (fun W => (find1 36 321 (by omega) (by omega) (by kernel_rfl) W).mono fun e w' ⟨g1, g2⟩ => ⟨g1.trans rfl, g2⟩) A (fun _ g => g) _ (next pc) fun W wb h => sw_no h 36 d a b imm o0 o1 i0 i1 hd' ha' hb' hq
  · have e : exe A r pc ⟨40, d, a, b, imm⟩ = goes A r imm := rfl
    rw [e]
    exact step_do hc hs hn hf _ hd hx rfl 322 (fun _ _ => by kernel_rfl) (fun W => (find1 40 322 (by omega) (by omega) (by kernel_rfl) W).mono fun e w' ⟨g1, g2⟩ => ⟨g1.trans rfl, g2⟩) A (fun _ g => g) _ _ fun W wb h => jump h 40 d a b imm o0 o1 i0 i1 hd' ha' hb'
  · have e : exe A r pc ⟨41, d, a, b, imm⟩ = goes A (putG r d (next pc)) imm := rfl
    rw [e]
    exact step_do hc hs hn hf _ hd hx rfl 323 (fun _ _ => by kernel_rfl) (fun W => (find1 41 323 (by omega) (by omega) (by kernel_rfl) W).mono fun e w' ⟨g1, g2⟩ => ⟨g1.trans rfl, g2⟩) A (fun _ g => g) _ _ fun W wb h => jal h 41 d a b imm o0 o1 i0 i1 hd' ha' hb'
  · have e : exe A r pc ⟨42, d, a, b, imm⟩ = goes A r (rg r a) := rfl
    rw [e]
    exact step_do hc hs hn hf _ hd hx rfl 324 (fun _ _ => by kernel_rfl) (fun W => (find1 42 324 (by omega) (by omega) (by kernel_rfl) W).mono fun e w' ⟨g1, g2⟩ => ⟨g1.trans rfl, g2⟩) A (fun _ g => g) _ _ fun W wb h => jr h 42 d a b imm o0 o1 i0 i1 hd' ha' hb'
  · have e : exe A r pc ⟨43, d, a, b, imm⟩ = goes A r (br (rg r a == rg r b) imm (next pc)) := rfl
    rw [e]
    exact step_do hc hs hn hf _ hd hx rfl 325 (fun _ _ => by kernel_rfl) (fun W => (find1 43 325 (by omega) (by omega) (by kernel_rfl) W).mono fun e w' ⟨g1, g2⟩ => ⟨g1.trans rfl, g2⟩) A (fun _ g => g) _ _ fun W wb h => beq h 43 d a b imm o0 o1 i0 i1 hd' ha' hb'
  · have e : exe A r pc ⟨44, d, a, b, imm⟩ = goes A r (br (rg r a != rg r b) imm (next pc)) := rfl
    rw [e]
    exact step_do hc hs hn hf _ hd hx rfl 326 (fun _ _ => by kernel_rfl) (fun W => (find1 44 326 (by omega) (by omega) (by kernel_rfl) W).mono fun e w' ⟨g1, g2⟩ => ⟨g1.trans rfl, g2⟩) A (fun _ g => g) _ _ fun W wb h => bne h 44 d a b imm o0 o1 i0 i1 hd' ha' hb'
  · have e : exe A r pc ⟨45, d, a, b, imm⟩ = goes A r (br (decide (rg r a < rg r b)) imm (next pc)) := rfl
    rw [e]
    exact step_do hc hs hn hf _ hd hx rfl 327 (fun _ _ => by kernel_rfl) (fun W => (find1 45 327 (by omega) (by omega) (by kernel_rfl) W).mono fun e w' ⟨g1, g2⟩ => ⟨g1.trans rfl, g2⟩) A (fun _ g => g) _ _ fun W wb h => bltu h 45 d a b imm o0 o1 i0 i1 hd' ha' hb'
  · have e : exe A r pc ⟨46, d, a, b, imm⟩ = goes A r (br (decide (rg r b ≤ rg r a)) imm (next pc)) := rfl
    rw [e]
    exact step_do hc hs hn hf _ hd hx rfl 328 (fun _ _ => by kernel_rfl) (fun W => (find1 46 328 (by omega) (by omega) (by kernel_rfl) W).mono fun e w' ⟨g1, g2⟩ => ⟨g1.trans rfl, g2⟩) A (fun _ g => g) _ _ fun W wb h => bgeu h 46 d a b imm o0 o1 i0 i1 hd' ha' hb'
  · have e : exe A r pc ⟨50, d, a, b, imm⟩ = ⟨1, imm, 0, r, next pc, A⟩ := rfl
    rw [e]
    exact step_sys hc hs hn hf _ hd hx rfl (fun W => (find1 50 (-1) (by omega) (by omega) (by kernel_rfl) W).mono fun e w' ⟨g1, g2⟩ => ⟨g1.trans rfl, g2⟩)
end
end Cp
end Go.Proofs.YtdmoohiepnbdaaaGreat
namespace Go.Proofs.YtdmoohiepnbdaaaGreat
open Go.RowKit Word
set_option linter.unusedVariables false
namespace Cp
def blks (A : List Pg) : List Nat := A.map Pg.blk
theorem blks_set (A : List Pg) (x v : Int) : blks (setByte A x v) = blks A := by
  unfold blks setByte
  rw [List.map_map]
  exact List.map_congr_left fun p _ => setPg_blk x v p
theorem blks_putN (A : List Pg) (addr : Int) (xs : List Int) : ∀ k, blks (putN A addr xs k) = blks A
  | 0 => rfl
  | k + 1 => (blks_set _ _ _).trans (blks_putN A addr xs k)
theorem pgBlk_iff {A B : List Pg} (h : blks A = blks B) (k : Nat) : Sp.pgBlk A k ↔ Sp.pgBlk B k := by
  have e : ∀ C : List Pg, Sp.pgBlk C k ↔ k ∈ blks C := fun C => by
    unfold Sp.pgBlk blks
    rw [List.mem_map]
    exact ⟨fun ⟨p, h1, h2⟩ => ⟨p, h1, h2.symm⟩, fun ⟨p, h1, h2⟩ => ⟨p, h1, h2.symm⟩⟩
  rw [e, e, h]
theorem foot_iff {A B : List Pg} (h : blks A = blks B) {sb mb k : Nat} : Spc.foot sb mb A k ↔ Spc.foot sb mb B k := by
  unfold Spc.foot
  have := pgBlk_iff h k
  unfold Sp.pgBlk at this
  rw [this]
theorem blks_loads (A : List Pg) (r : List Int) (pc : Int) (x : Ins) (n : Nat) : blks (loads A r pc x n).A = blks A := by unfold loads; split <;> rfl
theorem blks_stores (A : List Pg) (r : List Int) (pc : Int) (x : Ins) (n : Nat) : blks (stores A r pc x n).A = blks A := by
  unfold stores
  split
  · exact blks_putN _ _ _ _
  · rfl
theorem blks_exe (A : List Pg) (r : List Int) (pc : Int) (x : Ins) : blks (exe A r pc x).A = blks A := by
  unfold exe
  by_cases c0 : x.op ≤ 14
  · rw [if_pos c0]; rfl
  rw [if_neg c0]
  by_cases c1 : x.op ≤ 30
  · rw [if_pos c1]; rfl
  rw [if_neg c1]
  by_cases c2 : x.op = 32
  · rw [if_pos c2]; rfl
  rw [if_neg c2]
  by_cases c3 : x.op = 33
  · rw [if_pos c3]; exact blks_loads _ _ _ _ _
  rw [if_neg c3]
  by_cases c4 : x.op = 34
  · rw [if_pos c4]; exact blks_loads _ _ _ _ _
  rw [if_neg c4]
  by_cases c5 : x.op = 35
  · rw [if_pos c5]; exact blks_stores _ _ _ _ _
  rw [if_neg c5]
  by_cases c6 : x.op = 36
  · rw [if_pos c6]; exact blks_stores _ _ _ _ _
  rw [if_neg c6]
  by_cases c7 : x.op = 40
  · rw [if_pos c7]; rfl
  rw [if_neg c7]
  by_cases c8 : x.op = 41
  · rw [if_pos c8]; rfl
  rw [if_neg c8]
  by_cases c9 : x.op = 42
  · rw [if_pos c9]; rfl
  rw [if_neg c9]
  by_cases c10 : x.op = 43
  · rw [if_pos c10]; rfl
  rw [if_neg c10]
  by_cases c11 : x.op = 44
  · rw [if_pos c11]; rfl
  rw [if_neg c11]
  by_cases c12 : x.op = 45
  · rw [if_pos c12]; rfl
  rw [if_neg c12]
  by_cases c13 : x.op = 46
  · rw [if_pos c13]; rfl
  rw [if_neg c13]
theorem blks_stp (A : List Pg) (r : List Int) (pc : Int) : blks (stp A r pc).A = blks A := by
  unfold stp
  split
  · split
    · exact blks_exe _ _ _ _
    · rfl
  · rfl
section
variable {w : World} {cb sb mb : Nat} {A : List Pg} {r : List Int} {pc : Int}
theorem reg_ok (h : Cpu 281 w cb r pc) (n : Nat) (hn : n < 16) :
    Calls Tryz.prog 153 #[.pointer (some ⟨cb, 0, none⟩), .int .i64 n] w fun e w' => e = .returned (.tuple #[.int .u32 (rg r n), .int .i64 0]) ∧ w = w' := by
  have hc := h.cellReg n hn
  have g0 : decide ((n : Int) < 0) = false := decide_eq_false (by omega)
  have g1 : decide ((16 : Int) ≤ n) = false := decide_eq_false (by omega)
  have g2 : (n : Int) < 16 := by omega
  clear h
  go_enter Tryz.func153, Tryz.ntmps153
  go_wp2
  go_ret2
  exact ⟨rfl, rfl⟩
theorem setReg_ok (h : Cpu 281 w cb r pc) (n : Nat) (hn : n < 16) (v : Int) (v0 : 0 ≤ v) (v1 : v ≤ 4294967295) :
    Calls Tryz.prog 81 #[.pointer (some ⟨cb, 0, none⟩), .int .i64 n, .int .u32 v] w fun e w' => e = .returned (.int .i64 0) ∧ Cpu 281 w' cb (putG r n v) pc ∧ Mod (fun k => k = cb) w w' := by
  have g0 : decide ((n : Int) < 0) = false := decide_eq_false (by omega)
  have g1 : decide ((16 : Int) ≤ n) = false := decide_eq_false (by omega)
  have g2 : (n : Int) % 256 = n := by omega
  have g3 : IntKind.u8.wrap (n : Int) = n := by rw [IntKind.wrap_u8]; omega
  have H := Lib.hid h
  clear h
  go_enter Tryz.func81, Tryz.ntmps81
  go_wp2_with fail
  refine (put H.out n hn v v0 v1).mono ?_
  rintro e w2 ⟨rfl, hc, hm⟩
  have HC := Lib.hid hc
  have HM := Lib.hid hm
  clear hc hm
  go_wp2
  go_ret
  exact ⟨rfl, HC.out, HM.out⟩
theorem new (pc : Int) (p0 : 0 ≤ pc) (p1 : pc ≤ 4294967295) (w : World) : Calls Tryz.prog 107 #[.int .u32 pc] w fun e w' => e = .returned (.pointer (some ⟨w.heap.size, 0, none⟩)) ∧ Cpu 281 w' w.heap.size (List.replicate 16 0) pc ∧ Below w.heap.size w w' := by
  go_enter Tryz.func107, Tryz.ntmps107
  go_wp2
  go_ret
  refine ⟨rfl, ⟨(heap_alloc_new w _).trans ?_, ⟨rfl, fun x hx => ?_⟩, p0, p1⟩, (Below.refl _ _).alloc (Nat.le_refl _) _⟩
  · rfl
  · have := List.eq_of_mem_replicate hx
    omega
end
end Cp
end Go.Proofs.YtdmoohiepnbdaaaGreat
namespace Go.Proofs.YtdmoohiepnbdaaaGreat
open Go.RowKit Word
set_option linter.unusedVariables false
namespace Cp
section
variable {w : World} {cb sb mb : Nat} {A : List Pg} {r : List Int} {pc : Int}
theorem set3_blk {V : World} {b : Nat} {t : TypeId} {a0 a1 a2 : Value} (h0 : V.heap[b]? = some (.cells #[a0, a1, a2] t (0, 0))) (x y z : Value) : (((V.setCell ⟨b, 0, none⟩ x).setCell ⟨b, 1, none⟩ y).setCell ⟨b, 2, none⟩ z).heap[b]? = some (.cells #[x, y, z] t (0, 0)) := by
  have e1 := setCell_eq_setRow V b 0 _ _ _ x h0
  have h1 := setRow_heap V b _ (#[a0, a1, a2].setIfInBounds 0 x) _ _ h0
  rw [← e1] at h1
  have e2 := setCell_eq_setRow _ b 1 _ _ _ y h1
  have h2 := setRow_heap _ b _ ((#[a0, a1, a2].setIfInBounds 0 x).setIfInBounds 1 y) _ _ h1
  rw [← e2] at h2
  have e3 := setCell_eq_setRow _ b 2 _ _ _ z h2
  have h3 := setRow_heap _ b _ (((#[a0, a1, a2].setIfInBounds 0 x).setIfInBounds 1 y).setIfInBounds 2 z) _ _ h2
  rw [← e3] at h3
  exact h3
end
end Cp
end Go.Proofs.YtdmoohiepnbdaaaGreat
