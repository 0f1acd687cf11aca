/- Two cpus of the program's in two spaces, and the document's beside them: CpuSteps in plain numbers, and in memory. -/
import Derived.Test.YtldmglodjafklaaGreatRunD
import Derived.Test.YtldmglodjafklaaGreatCopy6
namespace Go.Proofs.YtldmglodjafklaaGreat
open Go.RowKit Word
set_option linter.unusedSimpArgs false
set_option linter.unusedVariables false
namespace Cp
theorem run_kind : ∀ (n : Nat) (A : List Pg) (r : List Int) (pc : Int), (run A r pc n).1.kind = 0 ∨ (run A r pc n).1.kind = 1 ∨ (run A r pc n).1.kind = 2
  | 0, _, _, _ => .inl rfl
  | n + 1, A, r, pc => by
    simp only [run]
    split
    · exact run_kind n _ _ _
    · split <;> exact stp_kind A r pc
theorem run_le (A : List Pg) (r : List Int) (pc : Int) (n : Nat) : (run A r pc n).2 ≤ n := by
  by_cases h : (run A r pc n).1.kind = 0
  · exact Nat.le_of_eq ((run_add 0 n A r pc).1 h).1
  · exact ((run_add 0 n A r pc).2 h).1
theorem run_full (A : List Pg) (r : List Int) (pc : Int) (n : Nat) (h : (run A r pc n).1.kind = 0) : (run A r pc n).2 = n := ((run_add 0 n A r pc).1 h).1
theorem like_eq {q p : Out × Nat} (h : Like q.1 p.1) (e : q.2 = p.2) : q = (⟨p.1.kind, p.1.num, p.1.why, p.1.r, p.1.pc, q.1.A⟩, p.2) := by
  obtain ⟨⟨a, b, c, d, f, g⟩, m⟩ := q
  obtain ⟨h1, h2, h3, h4, h5, _⟩ := h
  simp only at h1 h2 h3 h4 h5 e ⊢
  rw [h1, h2, h3, h4, h5, e]
theorem steps_one {A B C : List Pg} (hC : cores C = cores A) (hB : cores A = cores B) (r : List Int) (pc : Int) (a b : Nat) (h0 : (run A r pc a).1.kind = 0) :
    ∃ (r1 : List Int) (pc1 : Int) (A1 : List Pg) (k u y : Int) (r2 : List Int) (pc2 : Int) (A2 A3 A4 : List Pg) (c : Nat),
      run A r pc a = (⟨0, 0, 0, r1, pc1, A1⟩, a) ∧ run A1 r1 pc1 b = (⟨k, u, y, r2, pc2, A2⟩, c) ∧ run C r pc (a + b) = (⟨k, u, y, r2, pc2, A3⟩, a + c) ∧ run B r pc (a + b) = (⟨k, u, y, r2, pc2, A4⟩, a + c) ∧
      cores A2 = cores A4 ∧ cores A3 = cores A4 ∧ c ≤ b ∧ (k = 0 → c = b) ∧ (k = 0 ∨ k = 1 ∨ k = 2) := by
  obtain ⟨g1, g2⟩ := (run_add b a A r pc).1 h0
  obtain ⟨z1, z2⟩ := run_none A r pc a h0
  obtain ⟨l3, e3⟩ := like_run (a + b) hC r pc
  obtain ⟨l4, e4⟩ := like_run (a + b) hB.symm r pc
  have f3 := like_eq l3 e3
  have f4 := like_eq l4 e4
  have c3 := l3.cores
  have c4 := l4.cores
  have hle := run_le (run A r pc a).1.A (run A r pc a).1.r (run A r pc a).1.pc b
  have hfu := run_full (run A r pc a).1.A (run A r pc a).1.r (run A r pc a).1.pc b
  have hkd := run_kind b (run A r pc a).1.A (run A r pc a).1.r (run A r pc a).1.pc
  rw [g2] at f3 f4 c3 c4
  generalize run A r pc a = q1 at *
  obtain ⟨⟨k1, n1, y1, r1, pc1, A1⟩, m1⟩ := q1
  simp only at h0 g1 z1 z2 hle hfu hkd f3 f4 c3 c4
  subst h0 z1 z2 g1
  generalize hq2 : run A1 r1 pc1 b = q2 at *
  obtain ⟨⟨k, u, y, r2, pc2, A2⟩, c⟩ := q2
  exact ⟨r1, pc1, A1, k, u, y, r2, pc2, A2, _, _, c, rfl, hq2, f3, f4, c4.symm, c3.trans c4.symm, hle, hfu, hkd⟩
theorem steps_two {A B C : List Pg} (hC : cores C = cores A) (hB : cores A = cores B) (r : List Int) (pc : Int) (a : Nat) (h0 : (run A r pc a).1.kind ≠ 0) :
    ∃ (k u y : Int) (r1 : List Int) (pc1 : Int) (A1 A3 A4 : List Pg) (c : Nat),
      run A r pc a = (⟨k, u, y, r1, pc1, A1⟩, c) ∧ run C r pc a = (⟨k, u, y, r1, pc1, A3⟩, c) ∧ run B r pc a = (⟨k, u, y, r1, pc1, A4⟩, c) ∧ cores A1 = cores A4 ∧ cores A3 = cores A4 ∧ c ≤ a ∧ (k = 1 ∨ k = 2) := by
  obtain ⟨l3, e3⟩ := like_run a hC r pc
  obtain ⟨l4, e4⟩ := like_run a hB.symm r pc
  have f3 := like_eq l3 e3
  have f4 := like_eq l4 e4
  have c3 := l3.cores
  have c4 := l4.cores
  have hle := run_le A r pc a
  have hkd := run_kind a A r pc
  generalize hq1 : run A r pc a = q1 at *
  obtain ⟨⟨k, u, y, r1, pc1, A1⟩, c⟩ := q1
  exact ⟨k, u, y, r1, pc1, A1, _, _, c, rfl, f3, f4, c4.symm, c3.trans c4.symm, hle, hkd.resolve_left h0⟩
section
variable {w : World} {cb sb mb db rb : Nat} {lv : Value} {A A' : List Pg} {R : List Rp} {r r' : List Int} {pc pc' k u y : Int} {c : Nat}
theorem run_at (hc : Cpu 116 w cb r pc) (hs : Spc w sb mb A) (hn : ¬ Spc.foot sb mb A cb) (n : Nat) (hn2 : n ≤ 9223372036854775807) (he : run A r pc n = (⟨k, u, y, r', pc', A'⟩, c)) :
    Calls Tryz.prog 34 #[.pointer (some ⟨cb, 0, none⟩), .pointer (some ⟨sb, 0, none⟩), .int .i64 n] w fun e w' => e = .returned (.tuple #[.agg #[.int .u8 k, .int .u32 u, .int .i64 y], .int .i64 c]) ∧ Cpu 116 w' cb r' pc' ∧ Spc w' sb mb A' ∧ blks A' = blks A ∧ Mod (fun k => k = cb ∨ Sp.pgBlk A k) w w' := by
  refine (run_any hc hs hn n hn2).mono fun e w' h => ?_
  have hb := blks_run n A r pc
  rw [he] at h hb
  obtain ⟨h1, h2, h3, h4⟩ := h
  exact ⟨h1, h2, h3, hb, h4⟩
theorem runD_at (hc : Cpu 107 w db r pc) (hr : Rsp w rb lv R) (hn : ¬ Rsp.foot rb lv R db) (n : Nat) (hn2 : n ≤ 9223372036854775807) (he : run (rpgs R) r pc n = (⟨k, u, y, r', pc', A'⟩, c)) :
    Calls Tryz.prog 35 #[.pointer (some ⟨db, 0, none⟩), .pointer (some ⟨rb, 0, none⟩), .int .i64 n] w fun e w' => ∃ R', e = .returned (.tuple #[.agg #[.int .u8 k, .int .u32 u, .int .i64 y], .int .i64 c]) ∧ Cpu 107 w' db r' pc' ∧ rpgs R' = A' ∧ Rsp w' rb lv R' ∧ Mod (fun k => k = db ∨ Rsp.foot rb lv R k) w w' ∧ ∀ k, Rsp.foot rb lv R' k → Rsp.foot rb lv R k ∨ w.heap.size ≤ k := by
  refine (runD hc hr hn n hn2).mono fun e w' h => ?_
  rw [he] at h
  exact h
end
end Cp
/-- A cpu and its space lie apart from another cpu and its space. -/
structure Aside (cb sb mb : Nat) (A : List Pg) (eb so mo : Nat) (C : List Pg) : Prop where
  ce : cb ≠ eb
  co : ¬ Spc.foot so mo C cb
  em : ¬ Spc.foot sb mb A eb
  mo : ∀ k, Spc.foot sb mb A k → ¬ Spc.foot so mo C k
theorem Aside.symm {cb sb mb : Nat} {A : List Pg} {eb so mo : Nat} {C : List Pg} (h : Aside cb sb mb A eb so mo C) : Aside eb so mo C cb sb mb A := ⟨h.ce.symm, h.em, h.co, fun k g1 g2 => h.mo k g2 g1⟩
theorem Aside.left {cb sb mb : Nat} {A A' : List Pg} {eb so mo : Nat} {C : List Pg} (h : Aside cb sb mb A eb so mo C) (e : Cp.blks A' = Cp.blks A) : Aside cb sb mb A' eb so mo C :=
  ⟨h.ce, h.co, fun g => h.em ((Cp.foot_iff e).1 g), fun k g => h.mo k ((Cp.foot_iff e).1 g)⟩
structure Twin (w0 w : World) (cb sb mb : Nat) (A : List Pg) (rc : List Int) (pcc : Int) (eb so mo : Nat) (C : List Pg) (re : List Int) (pce : Int) (db rb : Nat) (lv : Value) (R : List Rp) (rd : List Int) (pcd : Int) : Prop where
  one : Duo w0 w cb sb mb A rc pcc db rb lv R rd pcd
  two : Duo w0 w eb so mo C re pce db rb lv R rd pcd
  aside : Aside cb sb mb A eb so mo C
/-- Blocks that lie apart from all of it change. -/
theorem Duo.mod {w0 w w' : World} {cb sb mb : Nat} {A : List Pg} {rc : List Int} {pcc : Int} {db rb : Nat} {lv : Value} {R : List Rp} {rd : List Int} {pcd : Int} {F : Nat → Prop} (h : Duo w0 w cb sb mb A rc pcc db rb lv R rd pcd) (hm : Mod F w w')
    (hF : ∀ k, F k → w0.heap.size ≤ k ∧ k ≠ cb ∧ k ≠ db ∧ ¬ Spc.foot sb mb A k ∧ ¬ Rsp.foot rb lv R k) : Duo w0 w' cb sb mb A rc pcc db rb lv R rd pcd :=
  { h with
    cp := h.cp.keep hm (fun g => (hF _ g).2.1 rfl)
    dp := h.dp.keep hm (fun g => (hF _ g).2.2.1 rfl)
    pair := ⟨h.pair.sp.keep hm (fun k hk g => (hF _ g).2.2.2.1 hk), h.pair.rp.keep hm (fun k hk g => (hF _ g).2.2.2.2 hk), h.pair.apart⟩
    bel := hm.below h.bel h.bel.size (fun i _ hi => (hF i hi).1) }
namespace Twin
variable {w0 w w' : World} {cb sb mb : Nat} {A A' : List Pg} {rc rc' : List Int} {pcc pcc' : Int} {eb so mo : Nat} {C C' : List Pg} {re re' : List Int} {pce pce' : Int} {db rb : Nat} {lv : Value} {R R' : List Rp} {rd rd' : List Int} {pcd pcd' : Int}
theorem symm (h : Twin w0 w cb sb mb A rc pcc eb so mo C re pce db rb lv R rd pcd) : Twin w0 w eb so mo C re pce cb sb mb A rc pcc db rb lv R rd pcd := ⟨h.two, h.one, h.aside.symm⟩
theorem below (h : Twin w0 w cb sb mb A rc pcc eb so mo C re pce db rb lv R rd pcd) (hb : Below w.heap.size w w') : Twin w0 w' cb sb mb A rc pcc eb so mo C re pce db rb lv R rd pcd := ⟨h.one.below hb, h.two.below hb, h.aside⟩
theorem runC (h : Twin w0 w cb sb mb A rc pcc eb so mo C re pce db rb lv R rd pcd) (hc : Cpu 116 w' cb rc' pcc') (hs : Spc w' sb mb A') (hk : Cp.blks A' = Cp.blks A) (hm : Mod (fun k => k = cb ∨ Sp.pgBlk A k) w w') : Twin w0 w' cb sb mb A' rc' pcc' eb so mo C re pce db rb lv R rd pcd := by
  refine ⟨h.one.stepC hc hs hk hm, ?_, h.aside.left hk⟩
  exact { h.two with
    cp := h.two.cp.keep hm (by rintro (g | g); exact h.aside.ce g.symm; exact h.aside.em (.inr (.inr g)))
    dp := h.two.dp.keep hm (by rintro (g | g); exact h.one.cd g.symm; exact h.one.da (.inr (.inr g)))
    pair := ⟨h.two.pair.sp.keep hm (by rintro k hk (g | g); exact h.aside.co (g ▸ hk); exact h.aside.mo k (.inr (.inr g)) hk), h.two.pair.rp.keep hm (by rintro k hk (g | g); exact h.one.cr (g ▸ hk); exact h.one.pair.apart k (.inr (.inr g)) hk), h.two.pair.apart⟩
    bel := (h.one.stepC hc hs hk hm).bel }
theorem runE (h : Twin w0 w cb sb mb A rc pcc eb so mo C re pce db rb lv R rd pcd) (hc : Cpu 116 w' eb re' pce') (hs : Spc w' so mo C') (hk : Cp.blks C' = Cp.blks C) (hm : Mod (fun k => k = eb ∨ Sp.pgBlk C k) w w') : Twin w0 w' cb sb mb A rc pcc eb so mo C' re' pce' db rb lv R rd pcd := (h.symm.runC hc hs hk hm).symm
theorem runD (h : Twin w0 w cb sb mb A rc pcc eb so mo C re pce db rb lv R rd pcd) (hd : Cpu 107 w' db rd' pcd') (hr : Rsp w' rb lv R') (hm : Mod (fun k => k = db ∨ Rsp.foot rb lv R k) w w') (hf : ∀ k, Rsp.foot rb lv R' k → Rsp.foot rb lv R k ∨ w.heap.size ≤ k) : Twin w0 w' cb sb mb A rc pcc eb so mo C re pce db rb lv R' rd' pcd' := ⟨h.one.stepD hd hr hm hf, h.two.stepD hd hr hm hf, h.aside⟩
def foot (cb sb mb : Nat) (A : List Pg) (eb so mo : Nat) (C : List Pg) (db rb : Nat) (lv : Value) (R : List Rp) (k : Nat) : Prop := (k = cb ∨ Spc.foot sb mb A k) ∨ (k = eb ∨ Spc.foot so mo C k) ∨ k = db ∨ Rsp.foot rb lv R k
theorem lt (h : Twin w0 w cb sb mb A rc pcc eb so mo C re pce db rb lv R rd pcd) (k : Nat) (hk : foot cb sb mb A eb so mo C db rb lv R k) : k < w.heap.size := by
  rcases hk with (rfl | g) | (rfl | g) | rfl | g
  · exact h.one.cp.lt
  · exact h.one.pair.sp.lt g
  · exact h.two.cp.lt
  · exact h.two.pair.sp.lt g
  · exact h.one.dp.lt
  · exact h.one.pair.rp.lt g
theorem set (h : Twin w0 w cb sb mb A rc pcc eb so mo C re pce db rb lv R rd pcd) {b : Nat} (hb : ¬ foot cb sb mb A eb so mo C db rb lv R b) (hz : w0.heap.size ≤ b) (k u y : Int) :
    Twin w0 (((w.setCell ⟨b, 0, none⟩ (.int .u8 k)).setCell ⟨b, 1, none⟩ (.int .u32 u)).setCell ⟨b, 2, none⟩ (.int .i64 y)) cb sb mb A rc pcc eb so mo C re pce db rb lv R rd pcd := by
  have hm : Mod (fun i => i = b) w (((w.setCell ⟨b, 0, none⟩ (.int .u8 k)).setCell ⟨b, 1, none⟩ (.int .u32 u)).setCell ⟨b, 2, none⟩ (.int .i64 y)) := Mod.setCell (F := fun i => i = b) (Mod.setCell (F := fun i => i = b) (Mod.setCell (F := fun i => i = b) (Mod.refl _ _) ⟨b, 0, none⟩ (.inl rfl) _) ⟨b, 1, none⟩ (.inl rfl) _) ⟨b, 2, none⟩ (.inl rfl) _
  refine ⟨h.one.mod hm ?_, h.two.mod hm ?_, h.aside⟩
  · rintro i rfl
    exact ⟨hz, fun g => hb (.inl (.inl g)), fun g => hb (.inr (.inr (.inl g))), fun g => hb (.inl (.inr g)), fun g => hb (.inr (.inr (.inr g)))⟩
  · rintro i rfl
    exact ⟨hz, fun g => hb (.inr (.inl (.inl g))), fun g => hb (.inr (.inr (.inl g))), fun g => hb (.inr (.inl (.inr g))), fun g => hb (.inr (.inr (.inr g)))⟩
end Twin
/-- Both were copied. -/
theorem Duo.twin {w0 w w1 w2 : World} {cb sb mb : Nat} {A : List Pg} {rc : List Int} {pcc : Int} {db rb : Nat} {lv : Value} {R : List Rp} {rd : List Int} {pcd : Int} {so mo : Nat} {C : List Pg}
    (h : Duo w0 w cb sb mb A rc pcc db rb lv R rd pcd) (hc : Cpu 116 w1 w.heap.size rc pcc) (hb1 : Below w.heap.size w w1) (hs : Spc w2 so mo C) (hf : ∀ k, Spc.foot so mo C k → w1.heap.size ≤ k) (hb2 : Below w1.heap.size w1 w2) :
    Twin w0 w2 cb sb mb A rc pcc w.heap.size so mo C rc pcc db rb lv R rd pcd := by
  have h2 := (h.below hb1).below hb2
  have z0 := h.bel.size
  have z1 := hb1.size
  have l1 := h.cp.lt
  have l2 := h.dp.lt
  have l3 := hc.lt
  refine ⟨h2, ⟨hc.below hb2, h2.dp, ⟨hs, h2.pair.rp, fun k g q => ?_⟩, h2.bel, by omega, h2.d0, fun k g => ?_, h2.r0, by omega, fun g => ?_, fun g => ?_, fun g => ?_, h2.dr⟩, ⟨by omega, fun g => ?_, fun g => ?_, fun k g q => ?_⟩⟩
  · have := hf k g
    have := h.pair.rp.lt q
    omega
  · have := hf k g
    omega
  · have := hf _ g
    omega
  · have := h.pair.rp.lt g
    omega
  · have := hf _ g
    omega
  · have := hf _ g
    omega
  · have := h.pair.sp.lt g
    omega
  · have := hf k q
    have := h.pair.sp.lt g
    omega
/-- A box with a stop. -/
structure StpBox (w : World) (b : Nat) (k u y : Int) : Prop where
  blk : w.heap[b]? = some (.cells #[.int .u8 k, .int .u32 u, .int .i64 y] 29 (0, 0))
theorem StpBox.mod {F : Nat → Prop} {w w' : World} {b : Nat} {k u y : Int} (h : StpBox w b k u y) (hm : Mod F w w') (hF : ¬ F b) : StpBox w' b k u y := ⟨(hm.block _ (lt_of_block h.blk) hF).trans h.blk⟩
theorem StpBox.below {w w' : World} {b : Nat} {k u y : Int} (h : StpBox w b k u y) (hb : Below w.heap.size w w') : StpBox w' b k u y := ⟨(hb.block _ (lt_of_block h.blk)).trans h.blk⟩
theorem StpBox.cells {w : World} {b : Nat} {k u y : Int} (h : StpBox w b k u y) : w.cell? ⟨b, 0, none⟩ = some (.int .u8 k) ∧ w.cell? ⟨b, 1, none⟩ = some (.int .u32 u) ∧ w.cell? ⟨b, 2, none⟩ = some (.int .i64 y) ∧ w.frozen? ⟨b, 0, none⟩ = false ∧ w.frozen? ⟨b, 1, none⟩ = false ∧ w.frozen? ⟨b, 2, none⟩ = false := by
  unfold World.cell? World.frozen?
  rw [h.blk]
  exact ⟨rfl, rfl, rfl, rfl, rfl, rfl⟩
theorem StpBox.set {w : World} {b : Nat} {k u y : Int} (h : StpBox w b k u y) (k' u' y' : Int) : StpBox (((w.setCell ⟨b, 0, none⟩ (.int .u8 k')).setCell ⟨b, 1, none⟩ (.int .u32 u')).setCell ⟨b, 2, none⟩ (.int .i64 y')) b k' u' y' := ⟨Cp.set3_blk h.blk _ _ _⟩
end Go.Proofs.YtldmglodjafklaaGreat
