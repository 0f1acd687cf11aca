/- RenvW: RenvA, RenvW, RenvY in one text. -/
import Derived.Test.YtkbhokmnbpnlbaaGreatMade21
/- Acts on the document's environment: what stays. -/
namespace Go.Proofs.YtkbhokmnbpnlbaaGreat
open Go.RowKit Word
set_option linter.unusedVariables false
set_option linter.unusedSimpArgs false
namespace RvStep
variable {w w' w'' : World} {a a' a'' : RAt} {R R' R'' : List Rp} {E E' E'' : En}
theorem refl (h : Renv w a R E) : RvStep w w a R E a R E := ⟨h, rfl, Mod.refl _ _, fun _ g => .inl g⟩
theorem of_below (h : Renv w a R E) (hb : Below w.heap.size w w') : RvStep w w' a R E a R E := ⟨h.below hb, rfl, Mod.of_below hb _, fun _ g => .inl g⟩
theorem trans (h : RvStep w w' a R E a' R' E') (k : RvStep w' w'' a' R' E' a'' R'' E'') : RvStep w w'' a R E a'' R'' E'' :=
  ⟨k.ren, k.same.trans h.same, h.mod.trans k.mod fun i _ g => h.foot i g, fun i g => by
    rcases k.foot i g with q | q
    · exact h.foot i q
    · exact .inr (Nat.le_trans h.mod.size q)⟩
theorem below (h : RvStep w w' a R E a' R' E') (hb : Below w'.heap.size w' w'') : RvStep w w'' a R E a' R' E' := h.trans (of_below h.ren hb)
theorem pre {W : World} (h : RvStep w w' a R E a' R' E') (hb : Below W.heap.size W w) : RvStep W w' a R E a' R' E' :=
  ⟨h.ren, h.same, (Mod.of_below hb _).trans h.mod fun i _ g => .inl g, fun i g => (h.foot i g).imp id fun q => Nat.le_trans hb.size q⟩
/-- What is new has turned. -/
theorem turn {F : Nat → Prop} (h : RvStep w w' a R E a' R' E') (hm : Mod F w' w'') (hF : ∀ k, F k → ¬ a'.foot R' k ∧ w.heap.size ≤ k) : RvStep w w'' a R E a' R' E' :=
  ⟨h.ren.keep hm fun k hk g => (hF k g).1 hk, h.same, h.mod.trans hm fun i _ g => .inr (hF i g).2, h.foot⟩
/-- Another state's words. -/
theorem setState (h : Renv w a R E) (k c y : Int) : RvStep w (((w.setCell ⟨a.eb, 3, none⟩ (.int .u8 k)).setCell ⟨a.eb, 4, none⟩ (.int .u32 c)).setCell ⟨a.eb, 5, none⟩ (.int .i64 y)) a R E a R { E with kind := k, code := c, why := y } := by
  have hm : Mod (fun i => i = a.eb) w (((w.setCell ⟨a.eb, 3, none⟩ (.int .u8 k)).setCell ⟨a.eb, 4, none⟩ (.int .u32 c)).setCell ⟨a.eb, 5, none⟩ (.int .i64 y)) := Mod.setCell (F := fun i => i = a.eb) (Mod.setCell (F := fun i => i = a.eb) (Mod.setCell (F := fun i => i = a.eb) (Mod.refl _ _) ⟨a.eb, 3, none⟩ (.inl rfl) _) ⟨a.eb, 4, none⟩ (.inl rfl) _) ⟨a.eb, 5, none⟩ (.inl rfl) _
  have b1 := heap_setCell_same w a.eb 3 _ _ (.int .u8 k) h.blk
  have b2 := heap_setCell_same _ a.eb 4 _ _ (.int .u32 c) b1
  have b3 := heap_setCell_same _ a.eb 5 _ _ (.int .i64 y) b2
  refine ⟨{ blk := b3, cp := h.cp.keep hm (fun g => h.ec g.symm), rp := h.rp.keep hm (fun i hi g => h.es (g ▸ hi)), eq := h.eq, ls := h.ls.keep hm (fun g hg => (h.le g hg).1) (fun g hg e => (h.le g hg).2.1 e), ec := h.ec, es := h.es, cs := h.cs, le := fun g hg => ⟨Nat.lt_of_lt_of_le (h.le g hg).1 hm.size, (h.le g hg).2⟩, ok := ⟨h.ok.up, h.ok.may, h.ok.has, h.ok.text⟩ }, rfl, hm.mono fun i _ g => .inl g, fun i g => .inl g⟩
theorem setText (h : Renv w a R E) (s : ByteArray) (hs : s.size ≤ 4096) : RvStep w (w.setCell ⟨a.eb, 7, none⟩ (.string s)) a R E a R { E with text := s } := by
  have hm : Mod (fun i => i = a.eb) w (w.setCell ⟨a.eb, 7, none⟩ (.string s)) := Mod.setCell (F := fun i => i = a.eb) (Mod.refl _ _) ⟨a.eb, 7, none⟩ (.inl rfl) _
  have b1 := heap_setCell_same w a.eb 7 _ _ (.string s) h.blk
  refine ⟨{ blk := b1, cp := h.cp.keep hm (fun g => h.ec g.symm), rp := h.rp.keep hm (fun i hi g => h.es (g ▸ hi)), eq := h.eq, ls := h.ls.keep hm (fun g hg => (h.le g hg).1) (fun g hg e => (h.le g hg).2.1 e), ec := h.ec, es := h.es, cs := h.cs, le := fun g hg => ⟨Nat.lt_of_lt_of_le (h.le g hg).1 hm.size, (h.le g hg).2⟩, ok := ⟨h.ok.up, h.ok.may, h.ok.has, hs⟩ }, rfl, hm.mono fun i _ g => .inl g, fun i g => .inl g⟩
/-- Another space, other registers, another pc. -/
theorem space {lv' : Value} {r : List Int} {pc : Int} {A : List Pg} (h : Renv w a R E) (hc : Cpu 124 w' a.cb r pc) (hs : Rsp w' a.rb lv' R') (hm : Mod (fun k => k = a.cb ∨ Rsp.foot a.rb a.lv R k) w w') (hf : ∀ k, Rsp.foot a.rb lv' R' k → Rsp.foot a.rb a.lv R k ∨ w.heap.size ≤ k) (hA : rpgs R' = A) (hok : ∀ x, x ∈ E.own → (atAddr A x).isSome = true) :
    RvStep w w' a R E { a with lv := lv' } R' { E with A := A, r := r, pc := pc } := by
  have hn : ∀ k, k < w.heap.size → ¬ Rsp.foot a.rb a.lv R k → ¬ Rsp.foot a.rb lv' R' k := fun k hk g q => (hf k q).elim g fun z => by omega
  refine ⟨{ blk := (hm.block _ (lt_of_block h.blk) ?_).trans h.blk, cp := hc, rp := hs, eq := hA, ls := h.ls.keep hm (fun g hg => (h.le g hg).1) ?_, ec := h.ec, es := hn _ (lt_of_block h.blk) h.es, cs := hn _ h.cp.lt h.cs, le := fun g hg => ⟨Nat.lt_of_lt_of_le (h.le g hg).1 hm.size, (h.le g hg).2.1, (h.le g hg).2.2.1, hn _ (h.le g hg).1 (h.le g hg).2.2.2⟩, ok := ⟨h.ok.up, h.ok.may, hok, h.ok.text⟩ }, rfl, hm.mono fun i _ g => ?_, fun i g => ?_⟩
  · rintro (g | g)
    · exact h.ec g
    · exact h.es g
  · rintro g hg (q | q)
    · exact (h.le g hg).2.2.1 q
    · exact (h.le g hg).2.2.2 q
  · exact g.elim (fun q => .inr (.inl q)) fun q => .inr (.inr (.inl q))
  · rcases g with q | q | q | q
    · exact .inl (.inl q)
    · exact .inl (.inr (.inl q))
    · exact (hf i q).imp (fun z => .inr (.inr (.inl z))) id
    · exact .inl (.inr (.inr (.inr q)))
/-- Other registers. -/
theorem regs {r : List Int} (h : Renv w a R E) (hc : Cpu 124 w' a.cb r E.pc) (hm : Mod (fun k => k = a.cb) w w') : RvStep w w' a R E a R { E with r := r } :=
  space (A := E.A) (pc := E.pc) h hc (h.rp.keep hm fun k hk g => h.cs (g ▸ hk)) (hm.mono fun _ _ g => .inl g) (fun k g => .inl g) h.eq h.ok.has
/-- Another list. -/
theorem list {v : Value} {own : List Int} (h : Renv w a R E) (hl : Sl.Lst w' v own) (hb : Below w.heap.size w w') (hv : ∀ b, v.ownBlock = some b → w.heap.size ≤ b ∧ b < w'.heap.size) (hok : ({ E with own := own } : En).Ok) :
    RvStep w (w'.setCell ⟨a.eb, 6, none⟩ v) a R E { a with ow := v } R { E with own := own } := by
  have hz := hb.size
  have h' := h.below hb
  have b1 := heap_setCell_same w' a.eb 6 _ _ v h'.blk
  have hm2 : Mod (fun i => i = a.eb) w (w'.setCell ⟨a.eb, 6, none⟩ v) := Mod.setCell (F := fun i => i = a.eb) (Mod.of_below hb _) ⟨a.eb, 6, none⟩ (.inl rfl) _
  have hs2 : (w'.setCell ⟨a.eb, 6, none⟩ v).heap.size = w'.heap.size := by simp [World.setCell]
  have hnew : ∀ {g}, v.ownBlock = some g → g ≠ a.eb ∧ g ≠ a.cb ∧ ¬ Rsp.foot a.rb a.lv R g := fun hg => by
    have q := (hv _ hg).1
    refine ⟨fun e => ?_, fun e => ?_, fun e => ?_⟩
    · have := lt_of_block h.blk; omega
    · have := h.cp.lt; omega
    · have := h.rp.lt e; omega
  refine ⟨{ blk := b1, cp := h.cp.keep hm2 (fun g => h.ec g.symm), rp := h.rp.keep hm2 (fun i hi g => h.es (g ▸ hi)), eq := h.eq, ls := hl.frame fun g hg => Below.heap_setCell _ _ _ _ (hnew hg).1, ec := h.ec, es := h.es, cs := h.cs, le := fun g hg => ⟨by rw [hs2]; exact (hv g hg).2, hnew hg⟩, ok := hok }, rfl, hm2.mono fun i _ g => .inl g, fun i g => ?_⟩
  rcases g with q | q | q | q
  · exact .inl (.inl q)
  · exact .inl (.inr (.inl q))
  · exact .inl (.inr (.inr (.inl q)))
  · exact .inr (hv i q).1
end RvStep
end Go.Proofs.YtkbhokmnbpnlbaaGreat
/- The walks of the document's environment's methods. -/
namespace Go.Proofs.YtkbhokmnbpnlbaaGreat
open Go.RowKit Word
set_option linter.unusedVariables false
set_option linter.unusedSimpArgs false
namespace Rv
section
variable {w : World} {a : RAt} {R : List Rp} {E : En}
theorem cells (h : Renv w a R E) : w.cell? ⟨a.eb, 0, none⟩ = some (.int .i64 E.num) ∧ w.cell? ⟨a.eb, 1, none⟩ = some (.pointer (some ⟨a.rb, 0, none⟩)) ∧ w.cell? ⟨a.eb, 2, none⟩ = some (.pointer (some ⟨a.cb, 0, none⟩)) ∧ w.cell? ⟨a.eb, 3, none⟩ = some (.int .u8 E.kind) ∧ w.cell? ⟨a.eb, 4, none⟩ = some (.int .u32 E.code) ∧ w.cell? ⟨a.eb, 5, none⟩ = some (.int .i64 E.why) ∧ w.cell? ⟨a.eb, 6, none⟩ = some a.ow ∧ w.cell? ⟨a.eb, 7, none⟩ = some (.string E.text) :=
  ⟨h.cell 0 _ rfl, h.cell 1 _ rfl, h.cell 2 _ rfl, h.cell 3 _ rfl, h.cell 4 _ rfl, h.cell 5 _ rfl, h.cell 6 _ rfl, h.cell 7 _ rfl⟩
theorem ready (h : Renv w a R E) : Calls Tryz.prog 151 #[.pointer (some ⟨a.eb, 0, none⟩)] w fun e w' => e = .returned (.bool (E.kind == 2)) ∧ w = w' := by
  obtain ⟨_, _, _, c3, _⟩ := cells h
  clear h
  go_enter Tryz.func151, Tryz.ntmps151
  go_wp2
  go_ret
  exact ⟨rfl, rfl⟩
theorem exit (h : Renv w a R E) (c : Int) : Calls Tryz.prog 75 #[.pointer (some ⟨a.eb, 0, none⟩), .int .u32 c] w fun e w' => e = .returned (.int .i64 E.redE) ∧ RvStep w w' a R E a R (E.exit c) := by
  have HR := Lib.hid (ready h)
  by_cases hk : E.kind = 2
  · have e : E.redE = 0 := by unfold En.redE; rw [if_neg (by omega)]
    have e2 : E.exit c = { E with kind := 3, code := c, why := 0 } := by unfold En.exit; rw [if_neg (by omega)]
    have HS := Lib.hid (RvStep.setState h 3 c 0)
    obtain ⟨_, _, _, c4, c5, c6, _⟩ := cells h
    have f4 := h.free 3
    have f5 := h.free 4
    have f6 := h.free 5
    rw [show (E.kind == 2) = true from beq_iff_eq.2 hk] at HR
    rw [e, e2]
    clear e e2 hk h
    go_enter Tryz.func75, Tryz.ntmps75
    go_wp2_with fail
    refine HR.out.mono ?_
    rintro e w2 ⟨rfl, rfl⟩
    go_wp2
    go_ret
    exact ⟨rfl, HS.out⟩
  · have e : E.redE = 3 := by unfold En.redE; rw [if_pos hk]
    have e2 : E.exit c = E := by unfold En.exit; rw [if_pos hk]
    have HS := Lib.hid (RvStep.refl h)
    rw [show (E.kind == 2) = false from beq_eq_false_iff_ne.2 hk] at HR
    rw [e, e2]
    clear e e2 hk h
    go_enter Tryz.func75, Tryz.ntmps75
    go_wp2_with fail
    refine HR.out.mono ?_
    rintro e w2 ⟨rfl, rfl⟩
    go_wp2
    go_ret
    exact ⟨rfl, HS.out⟩
theorem put (h : Renv w a R E) (s : ByteArray) (hs : s.size ≤ 140737488355328) : Calls Tryz.prog 78 #[.pointer (some ⟨a.eb, 0, none⟩), .string s] w fun e w' => e = .returned (.int .i64 (E.putE s)) ∧ RvStep w w' a R E a R (E.put s) := by
  have HR := Lib.hid (ready h)
  obtain ⟨_, _, _, _, _, _, _, c7⟩ := cells h
  have ht := h.ok.text
  by_cases hk : E.kind = 2
  · rw [show (E.kind == 2) = true from beq_iff_eq.2 hk] at HR
    by_cases hl : 4096 < E.text.size + s.size
    · have e2 : E.putE s = 4 := by unfold En.putE; rw [if_neg (by omega), if_pos hl]
      have e3 : E.put s = E := by unfold En.put; rw [e2, if_pos (by omega)]
      have HS := Lib.hid (RvStep.refl h)
      rw [e2, e3]
      have hlb : (4096 : Int) < E.text.size + s.size := by omega
      clear e2 e3 hk h
      go_enter Tryz.func78, Tryz.ntmps78
      go_wp2_with fail
      refine HR.out.mono ?_
      rintro e w2 ⟨rfl, rfl⟩
      go_wp2
      go_ret
      exact ⟨rfl, HS.out⟩
    · have e2 : E.putE s = 0 := by unfold En.putE; rw [if_neg (by omega), if_neg hl]
      have e3 : E.put s = { E with text := E.text ++ s } := by unfold En.put; rw [e2, if_neg (by omega)]
      have HS := Lib.hid (RvStep.setText h (E.text ++ s) (by rw [ByteArray.size_append]; omega))
      have f7 := h.free 7
      rw [e2, e3]
      have hlb : ¬ (4096 : Int) < E.text.size + s.size := by omega
      clear e2 e3 hk h
      go_enter Tryz.func78, Tryz.ntmps78
      go_wp2_with fail
      refine HR.out.mono ?_
      rintro e w2 ⟨rfl, rfl⟩
      go_wp2
      go_ret
      exact ⟨rfl, HS.out⟩
  · have e2 : E.putE s = 3 := by unfold En.putE; rw [if_pos hk]
    have e3 : E.put s = E := by unfold En.put; rw [e2, if_pos (by omega)]
    have HS := Lib.hid (RvStep.refl h)
    rw [show (E.kind == 2) = false from beq_eq_false_iff_ne.2 hk] at HR
    rw [e2, e3]
    clear e2 e3 hk h
    go_enter Tryz.func78, Tryz.ntmps78
    go_wp2_with fail
    refine HR.out.mono ?_
    rintro e w2 ⟨rfl, rfl⟩
    go_wp2
    go_ret
    exact ⟨rfl, HS.out⟩
theorem arg (h : Renv w a R E) (n : Int) (n0 : -9223372036854775808 ≤ n) (n1 : n ≤ 9223372036854775807) : Calls Tryz.prog 33 #[.pointer (some ⟨a.eb, 0, none⟩), .int .i64 n] w fun e w' => e = .returned (.int .u32 (E.arg n)) ∧ w = w' := by
  obtain ⟨_, _, c2, _⟩ := cells h
  by_cases g : 0 ≤ n ∧ n < 16
  · have e : E.arg n = Cp.rg E.r n := by unfold En.arg; rw [if_pos g]
    obtain ⟨m, rfl⟩ := Int.eq_ofNat_of_zero_le g.1
    have hc := h.cp.cellReg m (by omega)
    have g1 : ¬ ((m : Int) < 0) := by omega
    have g2 : (m : Int) < 16 := g.2
    rw [e]
    generalize Cp.rg E.r m = v at *
    clear e h g
    go_enter Tryz.func33, Tryz.ntmps33
    go_wp2
    go_ret
    exact ⟨rfl, rfl⟩
  · have e : E.arg n = 0 := by unfold En.arg; rw [if_neg g]
    rw [e]
    clear e h
    by_cases g1 : n < 0
    · clear g
      go_enter Tryz.func33, Tryz.ntmps33
      go_wp2
      go_ret
      exact ⟨rfl, rfl⟩
    · have g2 : 16 ≤ n := by omega
      clear g
      go_enter Tryz.func33, Tryz.ntmps33
      go_wp2
      go_ret
      exact ⟨rfl, rfl⟩
theorem answer (h : Renv w a R E) (v y : Int) (v0 : 0 ≤ v) (v1 : v ≤ 4294967295) (y0 : 0 ≤ y) (y1 : y ≤ 4294967295) : Calls Tryz.prog 79 #[.pointer (some ⟨a.eb, 0, none⟩), .int .u32 v, .int .u32 y] w fun e w' => e = .returned (.tuple #[]) ∧ RvStep w w' a R E a R (E.answer v y) := by
  obtain ⟨_, _, c2, _⟩ := cells h
  have d1 := h.cp.cellReg 1 (by omega)
  have d2 := h.cp.cellReg 2 (by omega)
  have f1 := h.cp.thaw 1
  have f2 := h.cp.thaw 2
  have HF : Hid (RvStep w ((w.setCell ⟨a.cb, 1, none⟩ (.int .u32 v)).setCell ⟨a.cb, 2, none⟩ (.int .u32 y)) a R E a R (E.answer v y)) := Lib.hid (by
    refine RvStep.regs h ?_ (Mod.setCell (F := fun k => k = a.cb) (Mod.setCell (F := fun k => k = a.cb) (Mod.refl _ _) ⟨a.cb, 1, none⟩ (.inl rfl) _) ⟨a.cb, 2, none⟩ (.inl rfl) _)
    exact (h.cp.setReg 1 (by omega) v v0 v1).setReg 2 (by omega) y y0 y1)
  clear h
  go_enter Tryz.func79, Tryz.ntmps79
  go_wp2
  go_end0
  exact ⟨rfl, HF.out⟩
end
end Rv
end Go.Proofs.YtkbhokmnbpnlbaaGreat
/- The walks of the document's environment's Page and Drop. -/
namespace Go.Proofs.YtkbhokmnbpnlbaaGreat
open Go.RowKit Word Pag
set_option linter.unusedVariables false
set_option linter.unusedSimpArgs false
namespace En
theorem ins_after {x : Int} : ∀ {l m : List Int}, (∃ z, z ∈ l ∧ x < z) → ins x (l ++ m) = ins x l ++ m
  | [], _, h => by obtain ⟨z, hz, _⟩ := h; cases hz
  | y :: l, m, h => by
    rw [List.cons_append]
    unfold ins
    by_cases g : x < y
    · rw [if_pos g, if_pos g]; rfl
    · rw [if_neg g, if_neg g, List.cons_append, ins_after (l := l) (by
        obtain ⟨z, hz, hx⟩ := h
        rcases List.mem_cons.1 hz with rfl | hz
        · exact absurd hx g
        · exact ⟨z, hz, hx⟩)]
theorem ins_ahead {x : Int} : ∀ {l m : List Int}, (∀ z, z ∈ l → ¬ x < z) → ins x (l ++ m) = l ++ ins x m
  | [], _, _ => rfl
  | y :: l, m, h => by
    rw [List.cons_append]
    show (if x < y then _ else _) = _
    rw [if_neg (h y (List.mem_cons_self ..)), ins_ahead (l := l) fun z hz => h z (List.mem_cons_of_mem _ hz)]
    rfl
end En
namespace Rv
theorem app_next {w3 wr w' : World} {vl v' : Value} {built : List Int} {y : Int} (hb : ∀ b, vl.ownBlock = some b → w3.heap.size ≤ b ∧ b < wr.heap.size) (hB : Below w3.heap.size w3 wr) (o : Obj)
    (h1 : SlV w' 22 1 v' (built.length + 1) (built.map encU ++ [.int .u32 y])) (h2 : Mod (fun k => vl.ownBlock = some k) (wr.alloc o) w') (h3 : v'.ownBlock = vl.ownBlock ∨ ∃ k, v'.ownBlock = some k ∧ (wr.alloc o).heap.size ≤ k) :
    Sl.Lst w' v' (built ++ [y]) ∧ (∀ b, v'.ownBlock = some b → w3.heap.size ≤ b ∧ b < w'.heap.size) ∧ Below w3.heap.size w3 w' := by
  have hz := hB.size
  have hz2 : (wr.alloc o).heap.size = wr.heap.size + 1 := by simp
  refine ⟨?_, fun b hb' => ⟨?_, ?_⟩, ?_⟩
  · unfold Sl.Lst
    rw [List.length_append, List.map_append]
    exact h1
  · rcases h3 with g | ⟨k, g1, g2⟩
    · exact (hb b (g ▸ hb')).1
    · rw [g1] at hb'
      injection hb' with hb'
      omega
  · obtain ⟨g, q1, q2⟩ := SlV.lt h1 (by omega)
    rw [q1] at hb'
    injection hb' with hb'
    omega
  · exact Mod.below (hB.alloc hz o) h2 (by omega) fun i _ hi => (hb i hi).1
def pgRel (w3 : World) (own : List Int) (x : Int) (n : Nat) (vl vd vi : Value) (wr : World) : Prop :=
  ∃ (i : Nat) (d : Bool) (built : List Int), i ≤ n ∧ vi = .int .i64 i ∧ vd = .bool d ∧ Sl.Lst wr vl built ∧ (∀ b, vl.ownBlock = some b → w3.heap.size ≤ b ∧ b < wr.heap.size) ∧ Below w3.heap.size w3 wr ∧
    (d = true → built = En.ins x (own.take i) ∧ ∃ z, z ∈ own.take i ∧ x < z) ∧ (d = false → built = own.take i ∧ ∀ z, z ∈ own.take i → ¬ x < z)
def drRel (w3 : World) (own : List Int) (x : Int) (n : Nat) (vl vi : Value) (wr : World) : Prop :=
  ∃ (i : Nat), i ≤ n ∧ vi = .int .i64 i ∧ Sl.Lst wr vl ((own.take i).filter fun y => y != x) ∧ (∀ b, vl.ownBlock = some b → w3.heap.size ≤ b ∧ b < wr.heap.size) ∧ Below w3.heap.size w3 wr
theorem len_ins (x : Int) : ∀ l : List Int, (En.ins x l).length = l.length + 1
  | [] => rfl
  | y :: l => by
    unfold En.ins
    split
    · rfl
    · rw [List.length_cons, len_ins x l]; rfl
section
variable {w : World} {a : RAt} {R : List Rp} {E : En}
theorem mayR (x : Int) (x0 : 0 ≤ x) (x1 : x ≤ 4294967295) (w : World) : Calls Tryz.prog 153 #[.int .u32 x] w fun e w' => e = .returned (.bool (En.mayP x)) ∧ w = w' := by
  have HM := Lib.hid (Rs.may x x0 x1 w)
  cases hm : Sp.mayB x with
  | false =>
    have e : En.mayP x = false := by
      unfold En.mayP
      unfold Sp.mayB at hm
      cases g : (x % 256 == 0) with
      | false => rfl
      | true => rw [g, Bool.true_and] at hm; rw [hm, Bool.and_false]
    rw [hm] at HM
    rw [e]
    clear e hm
    go_enter Tryz.func153, Tryz.ntmps153
    go_wp2_with fail
    refine HM.out.mono ?_
    rintro e w2 ⟨rfl, rfl⟩
    go_wp2
    go_ret
    exact ⟨rfl, rfl⟩
  | true =>
    have e : En.mayP x = decide (256 ≤ x) := by
      unfold En.mayP
      unfold Sp.mayB at hm
      rw [Bool.and_eq_true] at hm
      rw [hm.1, hm.2, Bool.true_and, Bool.and_true]
    rw [hm] at HM
    rw [e]
    clear e hm
    go_enter Tryz.func153, Tryz.ntmps153
    go_wp2_with fail
    refine HM.out.mono ?_
    rintro e w2 ⟨rfl, rfl⟩
    go_wp2
    go_ret
    exact ⟨rfl, rfl⟩
set_option maxRecDepth 100000 in
set_option maxHeartbeats 8000000 in
theorem page (h : Renv w a R E) (x : Int) (x0 : 0 ≤ x) (x1 : x ≤ 4294967295) : Calls Tryz.prog 76 #[.pointer (some ⟨a.eb, 0, none⟩), .int .u32 x] w fun e w' => ∃ blk b' R', e = .returned (.int .i64 (E.pageE x)) ∧ RvStep w w' a R E b' R' (E.page x blk) := by
  have HR := Lib.hid (ready h)
  have HM := Lib.hid (mayR x x0 x1 w)
  have HS := Lib.hid (RvStep.refl h)
  by_cases hk : E.kind = 2
  · rw [show (E.kind == 2) = true from beq_iff_eq.2 hk] at HR
    cases hp : En.mayP x with
    | false =>
      have hm : E.mayE x = 2 := by unfold En.mayE; rw [if_neg (by omega), if_pos hp]
      have hpe : E.pageE x = 2 := by unfold En.pageE; rw [hm, if_pos (by omega)]
      have e2 : ∀ blk, E.page x blk = E := fun blk => by unfold En.page; rw [hpe, if_pos (by omega)]
      simp only [e2]
      rw [hpe]
      rw [hp] at HM
      clear e2 hpe hm hp hk h
      go_enter Tryz.func76, Tryz.ntmps76
      go_wp2_with fail
      refine HR.out.mono ?_
      rintro e w2 ⟨rfl, rfl⟩
      go_wp2_with fail
      refine HM.out.mono ?_
      rintro e w2 ⟨rfl, rfl⟩
      go_wp2
      go_ret
      exact ⟨0, _, _, rfl, HS.out⟩
    | true =>
      have hm : E.mayE x = 0 := by unfold En.mayE; rw [if_neg (by omega), if_neg (by rw [hp]; exact fun e => (nomatch e))]
      have hpe : E.pageE x = Sp.mapE E.A x 3 := by unfold En.pageE; rw [hm, if_neg (by omega)]
      rw [hp] at HM
      have HMap := Lib.hid (Rs.map_any h.rp x 3 x0 x1 (by omega) (by omega))
      rw [h.eq] at HMap
      obtain ⟨_, c1, _⟩ := cells h
      have HOk := Lib.hid h.ok
      by_cases he : Sp.mapE E.A x 3 = 0
      · have e2 : ∀ blk, E.page x blk = { E with A := Sp.mapA E.A x blk 3, own := En.ins x E.own } := fun blk => by unfold En.page; rw [hpe, if_neg (by omega)]
        have HO : Hid (∀ blk, x ∉ E.own ∧ ({ E with A := Sp.mapA E.A x blk 3, own := En.ins x E.own } : En).Ok) := Lib.hid fun blk => h.ok.page blk hp he
        have HH := Lib.hid fun blk => h.ok.map blk he
        simp only [e2]
        rw [hpe]
        rw [he] at HMap ⊢
        obtain ⟨i0, hi0, hz0, hz1, hz2⟩ := info_parts infoU32
        clear e2 hpe he hm hp hk h
        go_enter Tryz.func76, Tryz.ntmps76
        go_wp2_with fail
        refine HR.out.mono ?_
        rintro e w2 ⟨rfl, rfl⟩
        go_wp2_with fail
        refine HM.out.mono ?_
        rintro e w2 ⟨rfl, rfl⟩
        go_wp2_with fail
        refine HMap.out.mono ?_
        rintro e w3 ⟨lv', R', blk, rfl, hA, hs3⟩
        have hE3 := RvStep.space (r := E.r) (pc := E.pc) HS.out.ren (HS.out.ren.cp.keep hs3.mod HS.out.ren.cs) hs3.sp (hs3.mod.mono fun _ _ g => .inr g) hs3.foot hA (HH.out blk)
        have HS3 := Lib.hid hE3
        have HOl := Lib.hid HOk.out.len
        obtain ⟨n, hn⟩ : ∃ n, E.own.length = n := ⟨_, rfl⟩
        have Hn := Lib.hid hn
        have hnb : n ≤ 2000000 := by have := HOk.out.len; omega
        clear hs3 hA hE3 c1 HMap HM HR HS HH hn
        go_wp2
        go_loopw [6, 7, 8] (fun vl vd vi wr => pgRel w3 E.own x n vl vd vi wr) (fun _ _ vi _ => n - (intOf vi).toNat)
        case atStart => exact ⟨0, false, [], Nat.zero_le _, by go_num, rfl, Sl.Lst.nil _, fun b hb => (nomatch hb), Below.refl _ _, fun g => (nomatch g), fun _ => ⟨by simp, fun z hz => (by simp at hz)⟩⟩
        case round =>
          obtain ⟨i, d, built, hi, rfl, rfl, hl, hbb, hbel, ht, hf⟩ := hrel
          have hren := HS3.out.ren.below hbel
          obtain ⟨_, _, _, _, _, _, c6, _⟩ := cells hren
          simp only at c6
          have hls := hren.ls
          simp only at hls
          obtain ⟨ao, cap, hlv, hws⟩ := hls.words HOl.out
          rw [Hn.out] at hlv
          rw [hlv] at c6
          obtain ⟨al, capl, rfl⟩ := SlV.form hl
          have HL := Lib.hid (⟨hl, hbb, hbel⟩ : _ ∧ _ ∧ _)
          have HTF := Lib.hid (⟨ht, hf⟩ : _ ∧ _)
          have HLv := Lib.hid hlv
          have HRen := Lib.hid hren
          clear hl hbb hbel ht hf hls hlv hren
          by_cases hin : i < n
          · have hil : i < E.own.length := by rw [Hn.out]; exact hin
            obtain ⟨g, o, rfl, hcy⟩ := hws.cell i hil
            have Htk := Lib.hid (List.take_succ_eq_append_getElem hil)
            generalize hy : E.own[i] = y at *
            clear hws hy
            have HLa : Hid (∀ o, SlV (wr.alloc o) 22 1 (.slice al built.length capl) built.length (built.map encU)) := Lib.hid fun o => SlV.keep HL.out.1 fun g hg => Below.heap_alloc _ _ _ (HL.out.2.1 g hg).2
            have hbl : built.length ≤ 2000001 := by
              cases d with
              | true => rw [(HTF.out.1 rfl).1, len_ins, List.length_take]; omega
              | false => rw [(HTF.out.2 rfl).1, List.length_take]; omega
            have hbn : (built.length + 1) * 4 ≤ 140737488355328 := by omega
            have hcg : g < wr.heap.size := Sl.word_lt hcy
            cases d with
            | true =>
              go_wp2_with (at_builtin; refine wpList_append_slv _ rfl _ _ 32 rfl 22 i0 (.int .u32 0) 1 4 Tryz.underlying32 hi0 hz0 hz1 hz2 rfl (by decide) _ _ (built.map encU) rfl (HLa.out _) ⟨wr.heap.size, 0, none⟩ 1 1 [.int .u32 y] rfl (by omega) rfl (cell_one_new _ _ _) (by simp [Value.oneCell']) (by unfold maxLen; omega) (by omega) ?_; intro v5 w5 h1 h2 h3)
              have HN := Lib.hid (app_next (y := y) HL.out.2.1 HL.out.2.2 _ h1 h2 h3)
              clear h1 h2 h3
              go_wp2
              refine ⟨⟨i + 1, true, built ++ [y], by omega, by go_num, rfl, HN.out.1, HN.out.2.1, HN.out.2.2, fun _ => ?_, fun g => (nomatch g)⟩, by simp [intOf]; omega⟩
              obtain ⟨q1, z, q2, q3⟩ := HTF.out.1 rfl
              rw [Htk.out]
              exact ⟨by rw [q1, En.ins_after ⟨z, q2, q3⟩], z, List.mem_append_left _ q2, q3⟩
            | false =>
              by_cases hxy : x < y
              · have Hxy := Lib.hid hxy
                have HCy : Hid (∀ V, Below w3.heap.size w3 V → V.cell? ⟨g, o + i, none⟩ = some (.int .u32 y)) := Lib.hid fun V hV => by
                  have hg3 : g < w3.heap.size := (HS3.out.ren.le g (by show a.ow.ownBlock = some g; rw [HLv.out]; rfl)).1
                  exact (hV.cell (p := ⟨g, o + i, none⟩) hg3).trans ((HL.out.2.2.cell (p := ⟨g, o + i, none⟩) hg3).symm.trans hcy)
                go_wp2_with (first
                  | (at_builtin
                     refine wpList_append_slv _ rfl _ _ 32 rfl 22 i0 (.int .u32 0) 1 4 Tryz.underlying32 hi0 hz0 hz1 hz2 rfl (by decide) _ _ (built.map encU) rfl (HLa.out _) ⟨wr.heap.size, 0, none⟩ 1 1 [.int .u32 x] rfl (by omega) rfl (cell_one_new _ _ _) (by simp [Value.oneCell']) (by unfold maxLen; omega) (by omega) ?_
                     intro v5 w5 h1 h2 h3
                     have hn5 := app_next (y := x) HL.out.2.1 HL.out.2.2 _ h1 h2 h3
                     clear h1 h2 h3
                     have hl5 : (built ++ [x]).length = built.length + 1 := by simp
                     have HL5 := Lib.hid hl5
                     obtain ⟨al5, capl5, hv5⟩ := SlV.form hn5.1
                     rw [hl5] at hv5
                     subst hv5
                     have c65 := (cells (HS3.out.ren.below hn5.2.2)).2.2.2.2.2.2.1
                     simp only at c65
                     rw [HLv.out] at c65
                     have hcy5 := HCy.out _ hn5.2.2
                     have HN5 := Lib.hid hn5
                     have HLb : Hid (∀ o, SlV (w5.alloc o) 22 1 (.slice al5 (built.length + 1) capl5) (built.length + 1) ((built ++ [x]).map encU)) := Lib.hid fun o => by
                       have := SlV.keep (w' := w5.alloc o) HN5.out.1 fun g hg => Below.heap_alloc _ _ _ (HN5.out.2.1 g hg).2
                       rw [HL5.out] at this
                       exact this
                     clear hn5 hl5)
                  | (at_builtin
                     refine wpList_append_slv _ rfl _ _ 32 rfl 22 i0 (.int .u32 0) 1 4 Tryz.underlying32 hi0 hz0 hz1 hz2 rfl (by decide) _ _ ((built ++ [x]).map encU) rfl (HLb.out _) ⟨w5.heap.size, 0, none⟩ 1 1 [.int .u32 y] rfl (by omega) rfl (cell_one_new _ _ _) (by simp [Value.oneCell']) (by unfold maxLen; omega) (by omega) ?_
                     intro v6 w6 h1 h2 h3
                     have HN6 := Lib.hid (app_next (built := built ++ [x]) (y := y) HN5.out.2.1 HN5.out.2.2 _ (by rw [HL5.out]; exact h1) h2 h3)
                     clear h1 h2 h3))
                refine ⟨⟨i + 1, true, (built ++ [x]) ++ [y], by omega, by go_num, rfl, HN6.out.1, HN6.out.2.1, HN6.out.2.2, fun _ => ?_, fun g => (nomatch g)⟩, by simp [intOf]; omega⟩
                obtain ⟨q1, q2⟩ := HTF.out.2 rfl
                rw [Htk.out]
                refine ⟨?_, y, List.mem_append_right _ (List.mem_singleton.2 rfl), Hxy.out⟩
                rw [En.ins_ahead q2, q1]
                unfold En.ins
                rw [if_pos Hxy.out]
                simp
              · go_wp2_with (at_builtin; refine wpList_append_slv _ rfl _ _ 32 rfl 22 i0 (.int .u32 0) 1 4 Tryz.underlying32 hi0 hz0 hz1 hz2 rfl (by decide) _ _ (built.map encU) rfl (HLa.out _) ⟨wr.heap.size, 0, none⟩ 1 1 [.int .u32 y] rfl (by omega) rfl (cell_one_new _ _ _) (by simp [Value.oneCell']) (by unfold maxLen; omega) (by omega) ?_; intro v5 w5 h1 h2 h3)
                have HN := Lib.hid (app_next (y := y) HL.out.2.1 HL.out.2.2 _ h1 h2 h3)
                have Hxy := Lib.hid hxy
                clear h1 h2 h3
                go_wp2
                refine ⟨⟨i + 1, false, built ++ [y], by omega, by go_num, rfl, HN.out.1, HN.out.2.1, HN.out.2.2, fun g => (nomatch g), fun _ => ?_⟩, by simp [intOf]; omega⟩
                obtain ⟨q1, q2⟩ := HTF.out.2 rfl
                rw [Htk.out]
                exact ⟨by rw [q1], fun z hz => by
                  rcases List.mem_append.1 hz with g | g
                  · exact q2 z g
                  · rw [List.mem_singleton.1 g]; exact Hxy.out⟩
          · obtain rfl : i = n := by omega
            have HTk : Hid (E.own.take i = E.own) := Lib.hid (List.take_of_length_le (Nat.le_of_eq Hn.out))
            cases d with
            | true =>
              have hbo := (HTF.out.1 rfl).1
              rw [HTk.out] at hbo
              have hl' : Sl.Lst wr (.slice al built.length capl) (En.ins x E.own) := by
                have := HL.out.1
                rw [hbo] at this ⊢
                exact this
              have hst := RvStep.list HS3.out.ren (own := En.ins x E.own) hl' HL.out.2.2 HL.out.2.1 (HO.out blk).2
              have HFin := Lib.hid (HS3.out.trans hst)
              have f6 := HRen.out.free 6
              clear hbo hl' hst
              go_wp2
              go_ret
              first | exact ⟨blk, _, _, rfl, HFin.out⟩ | exact ⟨rfl, blk, _, _, HFin.out⟩
            | false =>
              have hbo := (HTF.out.2 rfl)
              rw [HTk.out] at hbo
              have HBo := Lib.hid hbo
              have hbl : built.length ≤ 2000001 := by rw [hbo.1, Hn.out]; omega
              have hbn : (built.length + 1) * 4 ≤ 140737488355328 := by omega
              have HLa : Hid (∀ o, SlV (wr.alloc o) 22 1 (.slice al built.length capl) built.length (built.map encU)) := Lib.hid fun o => SlV.keep HL.out.1 fun g hg => Below.heap_alloc _ _ _ (HL.out.2.1 g hg).2
              clear hbo
              go_wp2_with (at_builtin
                           refine wpList_append_slv _ rfl _ _ 32 rfl 22 i0 (.int .u32 0) 1 4 Tryz.underlying32 hi0 hz0 hz1 hz2 rfl (by decide) _ _ (built.map encU) rfl (HLa.out _) ⟨wr.heap.size, 0, none⟩ 1 1 [.int .u32 x] rfl (by omega) rfl (cell_one_new _ _ _) (by simp [Value.oneCell']) (by unfold maxLen; omega) (by omega) ?_
                           intro v5 w5 h1 h2 h3
                           have hn5 := app_next (y := x) HL.out.2.1 HL.out.2.2 _ h1 h2 h3
                           clear h1 h2 h3
                           have hins : built ++ [x] = En.ins x E.own := by
                             have := En.ins_ahead (m := []) HBo.out.2
                             rw [List.append_nil] at this
                             rw [this, HBo.out.1]
                             rfl
                           rw [hins] at hn5
                           obtain ⟨al5, capl5, hv5⟩ := SlV.form hn5.1
                           subst hv5
                           have HFin := Lib.hid (HS3.out.trans (RvStep.list HS3.out.ren (own := En.ins x E.own) hn5.1 hn5.2.2 hn5.2.1 (HO.out blk).2))
                           have f6 := (HS3.out.ren.below hn5.2.2).free 6
                           have c65 := (cells (HS3.out.ren.below hn5.2.2)).2.2.2.2.2.2.1
                           simp only at c65
                           clear hn5 hins)
              go_ret
              first | exact ⟨blk, _, _, rfl, HFin.out⟩ | exact ⟨rfl, blk, _, _, HFin.out⟩
      · have e2 : ∀ blk, E.page x blk = E := fun blk => by unfold En.page; rw [hpe, if_pos he]
        have HSp : Hid (∀ blk, Sp.mapA E.A x blk 3 = E.A) := Lib.hid fun blk => by unfold Sp.mapA; rw [if_neg he]
        simp only [e2]
        rw [hpe]
        generalize Sp.mapE E.A x 3 = r at *
        have heb : (r != 0) = true := bne_iff_ne.2 he
        clear e2 hpe hm hp hk h
        go_enter Tryz.func76, Tryz.ntmps76
        go_wp2_with fail
        refine HR.out.mono ?_
        rintro e w2 ⟨rfl, rfl⟩
        go_wp2_with fail
        refine HM.out.mono ?_
        rintro e w2 ⟨rfl, rfl⟩
        go_wp2_with fail
        refine HMap.out.mono ?_
        rintro e w3 ⟨lv', R', blk, rfl, hA, hs3⟩
        rw [HSp.out blk] at hA
        have HS3 := Lib.hid (RvStep.space (r := E.r) (pc := E.pc) HS.out.ren (HS.out.ren.cp.keep hs3.mod HS.out.ren.cs) hs3.sp (hs3.mod.mono fun _ _ g => .inr g) hs3.foot hA HOk.out.has)
        clear hs3 hA
        go_wp2
        go_ret
        exact ⟨0, _, _, rfl, HS3.out⟩
  · have hm : E.mayE x = 3 := by unfold En.mayE; rw [if_pos hk]
    have hpe : E.pageE x = 3 := by unfold En.pageE; rw [hm, if_pos (by omega)]
    have e2 : ∀ blk, E.page x blk = E := fun blk => by unfold En.page; rw [hpe, if_pos (by omega)]
    simp only [e2]
    rw [hpe]
    rw [show (E.kind == 2) = false from beq_eq_false_iff_ne.2 hk] at HR
    clear e2 hpe hm hk h HM
    go_enter Tryz.func76, Tryz.ntmps76
    go_wp2_with fail
    refine HR.out.mono ?_
    rintro e w2 ⟨rfl, rfl⟩
    go_wp2
    go_ret
    exact ⟨0, _, _, rfl, HS.out⟩
set_option maxRecDepth 100000 in
set_option maxHeartbeats 8000000 in
theorem drop (h : Renv w a R E) (x : Int) (x0 : 0 ≤ x) (x1 : x ≤ 4294967295) : Calls Tryz.prog 77 #[.pointer (some ⟨a.eb, 0, none⟩), .int .u32 x] w fun e w' => ∃ b' R', e = .returned (.int .i64 (E.dropE x)) ∧ RvStep w w' a R E b' R' (E.drop x) := by
  have HR := Lib.hid (ready h)
  have HM := Lib.hid (mayR x x0 x1 w)
  have HS := Lib.hid (RvStep.refl h)
  by_cases hk : E.kind = 2
  · rw [show (E.kind == 2) = true from beq_iff_eq.2 hk] at HR
    cases hp : En.mayP x with
    | false =>
      have hm : E.mayE x = 2 := by unfold En.mayE; rw [if_neg (by omega), if_pos hp]
      have hpe : E.dropE x = 2 := by unfold En.dropE; rw [hm, if_pos (by omega)]
      have e2 : E.drop x = E := by unfold En.drop; rw [hm, if_pos (by omega)]
      rw [hpe, e2]
      rw [hp] at HM
      clear e2 hpe hm hp hk h
      go_enter Tryz.func77, Tryz.ntmps77
      go_wp2_with fail
      refine HR.out.mono ?_
      rintro e w2 ⟨rfl, rfl⟩
      go_wp2_with fail
      refine HM.out.mono ?_
      rintro e w2 ⟨rfl, rfl⟩
      go_wp2
      go_ret
      exact ⟨_, _, rfl, HS.out⟩
    | true =>
      have hm : E.mayE x = 0 := by unfold En.mayE; rw [if_neg (by omega), if_neg (by rw [hp]; exact fun e => (nomatch e))]
      rw [hp] at HM
      have HOk := Lib.hid h.ok
      have HOl := Lib.hid h.ok.len
      obtain ⟨n, hn⟩ : ∃ n, E.own.length = n := ⟨_, rfl⟩
      have Hn := Lib.hid hn
      have hnb : n ≤ 2000000 := by have := HOk.out.len; omega
      obtain ⟨i0, hi0, hz0, hz1, hz2⟩ := info_parts infoU32
      have HFin : Hid ((x ∉ E.own → ∀ w', Below w.heap.size w w' → ∃ b' R', Ending.returned (.int .i64 3) = .returned (.int .i64 (E.dropE x)) ∧ RvStep w w' a R E b' R' (E.drop x)) ∧ (x ∈ E.own → E.dropE x = Sp.unmapE E.A x ∧ E.drop x = { E with A := Sp.unmapA E.A x, own := E.own.filter (fun y => y != x) })) := Lib.hid (by
        refine ⟨fun hx w' hb => ?_, fun hx => ?_⟩
        · have e1 : E.dropE x = 3 := by unfold En.dropE; rw [if_neg (by omega), if_neg hx]
          have e2 : E.drop x = E := by unfold En.drop; rw [if_neg (by omega), if_neg hx]
          rw [e1, e2]
          exact ⟨_, _, rfl, RvStep.of_below HS.out.ren hb⟩
        · exact ⟨by unfold En.dropE; rw [if_neg (by omega), if_pos hx], by unfold En.drop; rw [if_neg (by omega), if_pos hx]⟩)
      have Hx : Hid ((E.own.filter (fun y => y != x)).length = E.own.length ↔ x ∉ E.own) := Lib.hid (by
        rw [List.length_filter_eq_length_iff]
        exact ⟨fun g q => by simpa using g x q, fun g y hy => by
          have : y ≠ x := fun e => g (e ▸ hy)
          simpa using this⟩)
      clear hm hp hk h hn
      go_enter Tryz.func77, Tryz.ntmps77
      go_wp2_with fail
      refine HR.out.mono ?_
      rintro e w2 ⟨rfl, rfl⟩
      go_wp2_with fail
      refine HM.out.mono ?_
      rintro e w2 ⟨rfl, rfl⟩
      clear HR HM
      go_wp2
      go_loopw [5, 6] (fun vl vi wr => drRel w E.own x n vl vi wr) (fun _ vi _ => n - (intOf vi).toNat)
      case atStart => exact ⟨0, Nat.zero_le _, by go_num, Sl.Lst.nil _, fun b hb => (nomatch hb), Below.refl _ _⟩
      case round =>
        obtain ⟨i, hi, rfl, hl, hbb, hbel⟩ := hrel
        have hren := HS.out.ren.below hbel
        obtain ⟨_, _, _, _, _, _, c6, _⟩ := cells hren
        have hls := hren.ls
        obtain ⟨ao, cap, hlv, hws⟩ := hls.words HOl.out
        rw [Hn.out] at hlv
        rw [hlv] at c6
        obtain ⟨built, hbu⟩ : ∃ built, (E.own.take i).filter (fun y => y != x) = built := ⟨_, rfl⟩
        rw [hbu] at hl
        obtain ⟨al, capl, rfl⟩ := SlV.form hl
        have HL := Lib.hid (⟨hl, hbb, hbel⟩ : _ ∧ _ ∧ _)
        have HBu := Lib.hid hbu
        have HLv := Lib.hid hlv
        have HRen := Lib.hid hren
        have hbl : built.length ≤ i := by rw [← hbu]; exact Nat.le_trans (List.length_filter_le _ _) (by rw [List.length_take]; omega)
        have hbn : (built.length + 1) * 4 ≤ 140737488355328 := by omega
        clear hl hbb hbel hls hlv hren hbu
        by_cases hin : i < n
        · have hil : i < E.own.length := by rw [Hn.out]; exact hin
          obtain ⟨g, o, rfl, hcy⟩ := hws.cell i hil
          have Htk := Lib.hid (List.take_succ_eq_append_getElem hil)
          generalize hy : E.own[i] = y at *
          clear hws hy
          by_cases hxy : y = x
          · subst hxy
            go_wp2
            refine ⟨⟨i + 1, by omega, by go_num, ?_, HL.out.2.1, HL.out.2.2⟩, by simp [intOf]; omega⟩
            rw [Htk.out, List.filter_append, HBu.out]
            simpa using HL.out.1
          · have hxb : (y != x) = true := bne_iff_ne.2 hxy
            have HXb : Hid (List.filter (fun z => z != x) [y] = [y]) := Lib.hid (by simp [hxy])
            have HLa : Hid (∀ o, SlV (wr.alloc o) 22 1 (.slice al built.length capl) built.length (built.map encU)) := Lib.hid fun o => SlV.keep HL.out.1 fun g hg => Below.heap_alloc _ _ _ (HL.out.2.1 g hg).2
            go_wp2_with (at_builtin
                         refine wpList_append_slv _ rfl _ _ 32 rfl 22 i0 (.int .u32 0) 1 4 Tryz.underlying32 hi0 hz0 hz1 hz2 rfl (by decide) _ _ (built.map encU) rfl (HLa.out _) ⟨wr.heap.size, 0, none⟩ 1 1 [.int .u32 y] rfl (by omega) rfl (cell_one_new _ _ _) (by simp [Value.oneCell']) (by unfold maxLen; omega) (by omega) ?_
                         intro v5 w5 h1 h2 h3
                         have HN := Lib.hid (app_next (y := y) HL.out.2.1 HL.out.2.2 _ h1 h2 h3)
                         clear h1 h2 h3)
            refine ⟨⟨i + 1, by omega, by go_num, ?_, HN.out.2.1, HN.out.2.2⟩, by simp [intOf]; omega⟩
            rw [Htk.out, List.filter_append, HBu.out, HXb.out]
            exact HN.out.1
        · obtain rfl : i = n := by omega
          have hbo := HBu.out
          rw [List.take_of_length_le (Nat.le_of_eq Hn.out)] at hbo
          have HBo := Lib.hid hbo
          by_cases hx : x ∈ E.own
          · have hne : built.length ≠ i := fun e => (Hx.out.1 (by rw [hbo, e, Hn.out])) hx
            have hnb2 : ((built.length : Int) == i) = false := beq_eq_false_iff_ne.2 (by omega)
            have hl' : Sl.Lst wr (.slice al built.length capl) (E.own.filter fun y => y != x) := by rw [hbo]; exact HL.out.1
            have hst := RvStep.list HS.out.ren (own := E.own.filter fun y => y != x) hl' HL.out.2.2 HL.out.2.1 (HOk.out.less x)
            obtain ⟨_, d1, _⟩ := cells hst.ren
            simp only at d1
            have HSt := Lib.hid hst
            have HUn := Lib.hid (Rs.unmap_any hst.ren.rp x x0 x1)
            obtain ⟨e1, e2⟩ := HFin.out.2 hx
            rw [hst.ren.eq] at HUn
            simp only at HUn
            have HE := Lib.hid (⟨e1, e2⟩ : _ ∧ _)
            have f6 := HRen.out.free 6
            clear hbo hl' hst hne e1 e2 hws hx
            go_wp2_with fail
            refine HUn.out.mono ?_
            rintro e w7 ⟨lv', R', rfl, hA, hs7⟩
            have HF := Lib.hid (HSt.out.trans (RvStep.space (r := E.r) (pc := E.pc) HSt.out.ren (HSt.out.ren.cp.keep hs7.mod HSt.out.ren.cs) hs7.sp (hs7.mod.mono fun _ _ g => .inr g) hs7.foot hA (HOk.out.unmap x)))
            clear hs7 hA
            go_wp2
            go_ret
            rw [HE.out.1, HE.out.2]
            exact ⟨_, _, rfl, HF.out⟩
          · have he : built.length = i := by rw [← hbo, Hx.out.2 hx, Hn.out]
            have hnb2 : ((built.length : Int) == i) = true := beq_iff_eq.2 (by omega)
            have HF := Lib.hid (HFin.out.1 hx wr HL.out.2.2)
            clear hbo hx hws he
            go_wp2
            go_ret
            exact HF.out
  · have hm : E.mayE x = 3 := by unfold En.mayE; rw [if_pos hk]
    have hpe : E.dropE x = 3 := by unfold En.dropE; rw [hm, if_pos (by omega)]
    have e2 : E.drop x = E := by unfold En.drop; rw [hm, if_pos (by omega)]
    rw [hpe, e2]
    rw [show (E.kind == 2) = false from beq_eq_false_iff_ne.2 hk] at HR
    clear e2 hpe hm hk h HM
    go_enter Tryz.func77, Tryz.ntmps77
    go_wp2_with fail
    refine HR.out.mono ?_
    rintro e w2 ⟨rfl, rfl⟩
    go_wp2
    go_ret
    exact ⟨_, _, rfl, HS.out⟩
end
end Rv
end Go.Proofs.YtkbhokmnbpnlbaaGreat
