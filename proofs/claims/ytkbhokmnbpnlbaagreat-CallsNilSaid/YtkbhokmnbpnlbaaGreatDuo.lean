/- Two cpus in two spaces, beside each other. -/
import Derived.Test.YtkbhokmnbpnlbaaGreatCpuW
namespace Go.Proofs.YtkbhokmnbpnlbaaGreat
open Go.RowKit Word
set_option linter.unusedVariables false
/-- The program's cpu and space, the document's cpu and space, none of them in another's blocks; all of them new since w0. -/
structure Duo (w0 w : World) (cb sb mb : Nat) (A : List Pg) (rc : List Int) (pcc : Int) (db rb : Nat) (lv : Value) (R : List Rp) (rd : List Int) (pcd : Int) : Prop where
  cp : Cpu 233 w cb rc pcc
  dp : Cpu 124 w db rd pcd
  pair : Pair w sb mb A rb lv R
  bel : Below w0.heap.size w0 w
  c0 : w0.heap.size ≤ cb
  d0 : w0.heap.size ≤ db
  a0 : ∀ k, Spc.foot sb mb A k → w0.heap.size ≤ k
  r0 : ∀ k, Rsp.foot rb lv R k → w0.heap.size ≤ k
  cd : cb ≠ db
  ca : ¬ Spc.foot sb mb A cb
  cr : ¬ Rsp.foot rb lv R cb
  da : ¬ Spc.foot sb mb A db
  dr : ¬ Rsp.foot rb lv R db
namespace Duo
variable {w0 w w' : World} {cb sb mb : Nat} {A A' : List Pg} {rc rc' : List Int} {pcc pcc' : Int} {db rb : Nat} {lv lv' : Value} {R R' : List Rp} {rd rd' : List Int} {pcd pcd' : Int}
theorem below (h : Duo w0 w cb sb mb A rc pcc db rb lv R rd pcd) (hb : Below w.heap.size w w') : Duo w0 w' cb sb mb A rc pcc db rb lv R rd pcd :=
  { h with cp := h.cp.below hb, dp := h.dp.below hb, pair := h.pair.below hb, bel := h.bel.trans (hb.mono h.bel.size) }
theorem setC (h : Duo w0 w cb sb mb A rc pcc db rb lv R rd pcd) (hc : Cpu 233 w' cb rc' pcc') (hm : Mod (fun k => k = cb) w w') : Duo w0 w' cb sb mb A rc' pcc' db rb lv R rd pcd :=
  { h with cp := hc, dp := h.dp.keep hm (fun g => h.cd g.symm), pair := ⟨h.pair.sp.keep hm (fun k hk g => h.ca (g ▸ hk)), h.pair.rp.keep hm (fun k hk g => h.cr (g ▸ hk)), h.pair.apart⟩,
           bel := hm.below h.bel h.bel.size (fun i _ hi => hi ▸ h.c0) }
theorem setD (h : Duo w0 w cb sb mb A rc pcc db rb lv R rd pcd) (hd : Cpu 124 w' db rd' pcd') (hm : Mod (fun k => k = db) w w') : Duo w0 w' cb sb mb A rc pcc db rb lv R rd' pcd' :=
  { h with cp := h.cp.keep hm h.cd, dp := hd, pair := ⟨h.pair.sp.keep hm (fun k hk g => h.da (g ▸ hk)), h.pair.rp.keep hm (fun k hk g => h.dr (g ▸ hk)), h.pair.apart⟩,
           bel := hm.below h.bel h.bel.size (fun i _ hi => hi ▸ h.d0) }
theorem left (h : Duo w0 w cb sb mb A rc pcc db rb lv R rd pcd) (s : SStep w w' sb mb A A') : Duo w0 w' cb sb mb A' rc pcc db rb lv R rd pcd :=
  { h with cp := h.cp.keep s.mod h.ca, dp := h.dp.keep s.mod h.da, pair := h.pair.left s, bel := s.mod.below h.bel h.bel.size (fun i _ hi => h.a0 i hi),
           a0 := fun k hk => (s.foot k hk).elim (h.a0 k) fun g => Nat.le_trans h.bel.size g,
           ca := fun g => (s.foot _ g).elim h.ca fun g => by have := h.cp.lt; omega,
           da := fun g => (s.foot _ g).elim h.da fun g => by have := h.dp.lt; omega }
theorem right (h : Duo w0 w cb sb mb A rc pcc db rb lv R rd pcd) (s : RStep w w' rb lv R lv' R') : Duo w0 w' cb sb mb A rc pcc db rb lv' R' rd pcd :=
  { h with cp := h.cp.keep s.mod h.cr, dp := h.dp.keep s.mod h.dr, pair := h.pair.right s, bel := s.mod.below h.bel h.bel.size (fun i _ hi => h.r0 i hi),
           r0 := fun k hk => (s.foot k hk).elim (h.r0 k) fun g => Nat.le_trans h.bel.size g,
           cr := fun g => (s.foot _ g).elim h.cr fun g => by have := h.cp.lt; omega,
           dr := fun g => (s.foot _ g).elim h.dr fun g => by have := h.dp.lt; omega }
/-- A step, or a Run, of the program's cpu. -/
theorem stepC (h : Duo w0 w cb sb mb A rc pcc db rb lv R rd pcd) (hc : Cpu 233 w' cb rc' pcc') (hs : Spc w' sb mb A') (hk : Cp.blks A' = Cp.blks A) (hm : Mod (fun k => k = cb ∨ Sp.pgBlk A k) w w') : Duo w0 w' cb sb mb A' rc' pcc' db rb lv R rd pcd := by
  have hf : ∀ k, Spc.foot sb mb A' k → Spc.foot sb mb A k := fun k => (Cp.foot_iff hk).1
  exact { h with
    cp := hc
    dp := h.dp.keep hm (by rintro (g | g); exact h.cd g.symm; exact h.da (.inr (.inr g)))
    pair := ⟨hs, h.pair.rp.keep hm (by rintro k hk (g | g); exact h.cr (g ▸ hk); exact h.pair.apart k (.inr (.inr g)) hk), fun k g => h.pair.apart k (hf k g)⟩
    bel := hm.below h.bel h.bel.size (by rintro i _ (g | g); exact g ▸ h.c0; exact h.a0 i (.inr (.inr g)))
    a0 := fun k hk => h.a0 k (hf k hk)
    ca := fun g => h.ca (hf _ g)
    da := fun g => h.da (hf _ g) }
theorem weaken {w00 : World} (h : Duo w0 w cb sb mb A rc pcc db rb lv R rd pcd) (hb : Below w00.heap.size w00 w0) : Duo w00 w cb sb mb A rc pcc db rb lv R rd pcd :=
  { h with bel := hb.trans (h.bel.mono hb.size), c0 := Nat.le_trans hb.size h.c0, d0 := Nat.le_trans hb.size h.d0, a0 := fun k hk => Nat.le_trans hb.size (h.a0 k hk), r0 := fun k hk => Nat.le_trans hb.size (h.r0 k hk) }
/-- A cell that was there at the start. -/
theorem cell (h : Duo w0 w cb sb mb A rc pcc db rb lv R rd pcd) {p : Addr} {v : Value} (hc : w0.cell? p = some v) (hp : p.block < w0.heap.size) : w.cell? p = some v := (World.cell?_of_block (w := w0) (h.bel.block _ hp)).trans hc
end Duo
namespace Cp
/-- The registers that Made lays, behind k of its rounds. -/
def regsK (xs : Nat → Int) (k : Nat) : List Int := (List.range 16).map fun i => if 0 < i ∧ i < k then xs i else 0
theorem regsK_zero (xs : Nat → Int) : regsK xs 0 = List.replicate 16 0 := rfl
theorem regsK_succ (xs : Nat → Int) (k : Nat) (hk : k < 16) : putG (regsK xs k) k (xs k) = regsK xs (k + 1) := by
  by_cases h0 : k = 0
  · subst h0
    rfl
  · rw [putG_nat _ _ _ h0]
    apply List.ext_getElem?
    intro n
    unfold regsK
    by_cases hn : n < 16
    · rw [List.getElem?_set]
      simp only [List.length_map, List.length_range, List.getElem?_map, List.getElem?_range hn, Option.map_some]
      by_cases e : k = n
      · subst e
        rw [if_pos rfl, if_pos hk, if_pos (by omega)]
      · rw [if_neg e]
        by_cases g : 0 < n ∧ n < k
        · rw [if_pos g, if_pos (by omega)]
        · rw [if_neg g, if_neg (by omega)]
    · rw [List.getElem?_eq_none (by simp; omega), List.getElem?_eq_none (by simp; omega)]
/-- The pages that Made lays, behind k of its rounds. -/
def pgsK (ps : Nat → Int) : Nat → List Pg
  | 0 => []
  | k + 1 => if ps k < 8 then Sp.mapA (pgsK ps k) (k * 256) 0 (ps k) else pgsK ps k
theorem pgsK_addr (ps : Nat → Int) : ∀ (k : Nat) (p : Pg), p ∈ pgsK ps k → p.addr < k * 256 ∧ p.addr % 256 = 0
  | 0, p, h => by cases h
  | k + 1, p, h => by
    unfold pgsK at h
    split at h
    · unfold Sp.mapA at h
      split at h
      · rcases mem_insPg.1 h with rfl | g
        · show ((k : Int) * 256) < ((k + 1 : Nat) : Int) * 256 ∧ ((k : Int) * 256) % 256 = 0
          omega
        · have := pgsK_addr ps k p g
          omega
      · have := pgsK_addr ps k p h
        omega
    · have := pgsK_addr ps k p h
      omega
theorem pgsK_free (ps : Nat → Int) (k : Nat) (hk : k ≤ 16) (h0 : 0 ≤ ps k) (h8 : ps k < 8) : Sp.mapE (pgsK ps k) (k * 256) (ps k) = 0 := by
  have hm : Sp.mayB ((k : Int) * 256) = true := by unfold Sp.mayB; rw [Bool.and_eq_true]; exact ⟨beq_iff_eq.2 (by omega), decide_eq_true (by omega)⟩
  have hn : pageAt (pgsK ps k) ((k : Int) * 256) = none := by
    unfold pageAt
    rw [show ((k : Int) * 256) - (k : Int) * 256 % 256 = (k : Int) * 256 by omega]
    refine atAddr_eq_none fun q hq => ?_
    have := pgsK_addr ps k q hq
    omega
  unfold Sp.mapE
  rw [if_neg (by rw [hm]; rintro (g | g); cases g; omega), hn]
  rfl
/-- The pages that Made leaves. -/
def madeA (ps : Nat → Int) (np : Nat) (at' : Int) (s : ByteArray) (wh : Int) (t : ByteArray) : List Pg := Sp.putA (Sp.putA (pgsK ps np) (at' % 4096) 0 s) (wh % 4096) 0 t
end Cp
end Go.Proofs.YtkbhokmnbpnlbaaGreat
