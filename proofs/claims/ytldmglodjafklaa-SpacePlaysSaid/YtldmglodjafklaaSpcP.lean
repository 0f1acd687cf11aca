/- Spaces: a byte is laid. -/
import Derived.Test.YtldmglodjafklaaSpc
namespace Go.Proofs.Ytldmglodjafklaa
open Go.RowKit
set_option linter.unusedVariables false
def setPg (x v : Int) (p : Pg) : Pg := if p.addr == x - x % 256 then { p with bytes := p.bytes.set (x % 256).toNat v } else p
def setByte (A : List Pg) (x v : Int) : List Pg := A.map (setPg x v)
theorem setPg_addr (x v : Int) (p : Pg) : (setPg x v p).addr = p.addr := by unfold setPg; split <;> rfl
theorem setPg_blk (x v : Int) (p : Pg) : (setPg x v p).blk = p.blk := by unfold setPg; split <;> rfl
theorem setPg_perm (x v : Int) (p : Pg) : (setPg x v p).perm = p.perm := by unfold setPg; split <;> rfl
theorem setPg_ok (x v : Int) (p : Pg) (h : p.ok) (v0 : 0 ≤ v) (v1 : v < 256) : (setPg x v p).ok := by
  unfold setPg
  split
  · refine ⟨h.a0, h.a1, h.a2, h.p0, h.p1, ?_, fun y hy => ?_⟩
    · rw [List.length_set]; exact h.len
    · rcases List.mem_or_eq_of_mem_set hy with g | rfl
      · exact h.bd y g
      · exact ⟨v0, v1⟩
  · exact h
theorem atAddr_set (A : List Pg) (x v y : Int) : atAddr (setByte A x v) y = (atAddr A y).map (setPg x v) := by
  unfold atAddr setByte
  rw [List.find?_map]
  congr 2
  funext p
  simp [Function.comp, setPg_addr]
theorem pageAt_set (A : List Pg) (x v y : Int) : pageAt (setByte A x v) y = (pageAt A y).map (setPg x v) := atAddr_set A x v _
theorem addr_eq_of_up {A : List Pg} (h : A.Pairwise fun p q => p.addr < q.addr) : ∀ {p q : Pg}, p ∈ A → q ∈ A → p.addr = q.addr → p = q := by
  induction A with
  | nil => intro p q hp; simp at hp
  | cons a r ih =>
    intro p q hp hq he
    rw [List.pairwise_cons] at h
    rcases List.mem_cons.1 hp with rfl | hp'
    · rcases List.mem_cons.1 hq with rfl | hq'
      · rfl
      · have := h.1 q hq'; omega
    · rcases List.mem_cons.1 hq with rfl | hq'
      · have := h.1 p hp'; omega
      · exact ih h.2 hp' hq' he
theorem blk_ne_of {A : List Pg} (h : A.Pairwise fun p q => p.blk ≠ q.blk) : ∀ {p q : Pg}, p ∈ A → q ∈ A → p ≠ q → p.blk ≠ q.blk := by
  induction A with
  | nil => intro p q hp; simp at hp
  | cons a r ih =>
    intro p q hp hq he
    rw [List.pairwise_cons] at h
    rcases List.mem_cons.1 hp with rfl | hp'
    · rcases List.mem_cons.1 hq with rfl | hq'
      · exact absurd rfl he
      · exact h.1 q hq'
    · rcases List.mem_cons.1 hq with rfl | hq'
      · exact fun e => h.1 p hp' e.symm
      · exact ih h.2 hp' hq' he
theorem Spc.ne_head {w : World} {sb mb : Nat} {A : List Pg} (h : Spc w sb mb A) {p : Pg} (hp : p ∈ A) : sb ≠ p.blk := by
  intro e
  have h1 := h.head
  have h2 := h.page p hp
  rw [← e, h1] at h2
  simp at h2
theorem Spc.ne_map {w : World} {sb mb : Nat} {A : List Pg} (h : Spc w sb mb A) {p : Pg} (hp : p ∈ A) : mb ≠ p.blk := by
  intro e
  obtain ⟨D, n, ⟨es, clock, hb, _⟩, _⟩ := h.map
  have h2 := h.page p hp
  rw [← e, hb] at h2
  cases h2
theorem Spc.ne_hm {w : World} {sb mb : Nat} {A : List Pg} (h : Spc w sb mb A) : sb ≠ mb := by
  intro e
  obtain ⟨D, n, ⟨es, clock, hb, _⟩, _⟩ := h.map
  have h2 := h.head
  rw [e, hb] at h2
  cases h2
theorem Spc.setByte {w : World} {sb mb : Nat} {A : List Pg} (h : Spc w sb mb A) {x v : Int} {p : Pg} (hp : pageAt A x = some p) {j : Nat} (hj : x % 256 = j) (v0 : 0 ≤ v) (v1 : v < 256) :
    Spc (w.setCell ⟨p.blk, 1 + j, none⟩ (.int .u8 v)) sb mb (setByte A x v) := by
  have hm := atAddr_mem hp
  have hpl := (h.ok p hm.1).len
  refine ⟨?_, ?_, ?_, ?_, ?_, ?_⟩
  · rw [heap_setCell_other _ _ _ _ (h.ne_head hm.1)]; exact h.head
  · obtain ⟨D, n, ho, hv, hs⟩ := h.map
    refine ⟨D, n, own_of_block ho (heap_setCell_other _ _ _ _ (h.ne_map hm.1)), fun y zd => ?_, ?_⟩
    · rw [hv, atAddr_set]
      cases atAddr A y with
      | none => rfl
      | some q => simp only [Option.map_some, setPg_blk]
    · unfold Proofs.Ytldmglodjafklaa.setByte; rw [List.length_map]; exact hs
  · intro q' hq'
    obtain ⟨q, hq, rfl⟩ := List.mem_map.1 hq'
    rw [setPg_blk]
    by_cases e : q.addr = x - x % 256
    · have : q = p := addr_eq_of_up h.up hq hm.1 (by rw [e, hm.2])
      subst this
      rw [heap_setCell_same w q.blk (1 + j) _ _ _ (h.page q hq)]
      congr 2
      unfold setPg Pg.cells
      rw [if_pos (by simpa using e), List.setIfInBounds_toArray, Nat.add_comm, List.set_cons_succ, hj]
      simp [List.map_set]
    · have hne : q ≠ p := fun g => e (by rw [g, hm.2])
      rw [heap_setCell_other _ _ _ _ (blk_ne_of h.blks hq hm.1 hne), h.page q hq]
      unfold setPg
      rw [if_neg (by simpa using e)]
  · intro q' hq'
    obtain ⟨q, hq, rfl⟩ := List.mem_map.1 hq'
    exact setPg_ok x v q (h.ok q hq) v0 v1
  · unfold Proofs.Ytldmglodjafklaa.setByte
    rw [List.pairwise_map]
    simpa only [setPg_addr] using h.up
  · unfold Proofs.Ytldmglodjafklaa.setByte
    rw [List.pairwise_map]
    simpa only [setPg_blk] using h.blks
/-- Bytes from an address on. -/
def putN (A : List Pg) (addr : Int) (xs : List Int) : Nat → List Pg
  | 0 => A
  | k + 1 => setByte (putN A addr xs k) (addr + k) (xs.getD k 0)
theorem pageAt_putN_some {A : List Pg} {y : Int} {p : Pg} (h : pageAt A y = some p) (addr : Int) (xs : List Int) (k : Nat) : ∃ q, pageAt (putN A addr xs k) y = some q ∧ q.blk = p.blk ∧ q.perm = p.perm ∧ q.addr = p.addr := by
  induction k with
  | zero => exact ⟨p, h, rfl, rfl, rfl⟩
  | succ k ih =>
    obtain ⟨q, hq, h1, h2, h3⟩ := ih
    refine ⟨setPg (addr + k) (xs.getD k 0) q, ?_, ?_, ?_, ?_⟩
    · show pageAt (setByte _ _ _) y = _
      rw [pageAt_set, hq]; rfl
    · rw [setPg_blk, h1]
    · rw [setPg_perm, h2]
    · rw [setPg_addr, h3]
theorem foot_setByte {sb mb : Nat} {A : List Pg} {x v : Int} {k : Nat} : Spc.foot sb mb (setByte A x v) k ↔ Spc.foot sb mb A k := by
  unfold Spc.foot Proofs.Ytldmglodjafklaa.setByte
  constructor
  · rintro (h | h | ⟨p, hp, rfl⟩)
    · exact .inl h
    · exact .inr (.inl h)
    · obtain ⟨q, hq, rfl⟩ := List.mem_map.1 hp
      exact .inr (.inr ⟨q, hq, setPg_blk x v q⟩)
  · rintro (h | h | ⟨p, hp, rfl⟩)
    · exact .inl h
    · exact .inr (.inl h)
    · exact .inr (.inr ⟨setPg x v p, List.mem_map.2 ⟨p, hp, rfl⟩, (setPg_blk x v p).symm⟩)
theorem foot_putN {sb mb : Nat} {A : List Pg} {addr : Int} {xs : List Int} {n k : Nat} : Spc.foot sb mb (putN A addr xs n) k ↔ Spc.foot sb mb A k := by
  induction n with
  | zero => exact Iff.rfl
  | succ n ih => exact foot_setByte.trans ih
end Go.Proofs.Ytldmglodjafklaa
