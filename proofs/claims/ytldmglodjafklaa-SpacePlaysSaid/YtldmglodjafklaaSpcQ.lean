/- Spaces: a page is laid. -/
import Derived.Test.YtldmglodjafklaaSpcP
namespace Go.Proofs.Ytldmglodjafklaa
open Go.RowKit
set_option linter.unusedVariables false
def insPg (p : Pg) : List Pg → List Pg
  | [] => [p]
  | q :: r => if p.addr < q.addr then p :: q :: r else q :: insPg p r
theorem mem_insPg {p q : Pg} {A : List Pg} : q ∈ insPg p A ↔ q = p ∨ q ∈ A := by
  induction A with
  | nil => simp [insPg]
  | cons a r ih =>
    unfold insPg
    split
    · simp
    · rw [List.mem_cons, ih, List.mem_cons]
      constructor
      · rintro (h | h | h) <;> simp [h]
      · rintro (h | h | h) <;> simp [h]
theorem length_insPg (p : Pg) (A : List Pg) : (insPg p A).length = A.length + 1 := by
  induction A with
  | nil => rfl
  | cons a r ih => unfold insPg; split <;> simp [ih]
theorem up_insPg {p : Pg} {A : List Pg} (h : A.Pairwise fun p q => p.addr < q.addr) (hn : ∀ q, q ∈ A → q.addr ≠ p.addr) : (insPg p A).Pairwise fun p q => p.addr < q.addr := by
  induction A with
  | nil => simp [insPg]
  | cons a r ih =>
    rw [List.pairwise_cons] at h
    have ha := hn a (by simp)
    unfold insPg
    split
    · rename_i hlt
      rw [List.pairwise_cons, List.pairwise_cons]
      refine ⟨fun q hq => ?_, h.1, h.2⟩
      rcases List.mem_cons.1 hq with rfl | hq'
      · exact hlt
      · have := h.1 q hq'; omega
    · rw [List.pairwise_cons]
      refine ⟨fun q hq => ?_, ih h.2 fun q hq => hn q (by simp [hq])⟩
      rcases mem_insPg.1 hq with rfl | hq'
      · omega
      · exact h.1 q hq'
theorem pw_insPg {p : Pg} {A : List Pg} (h : A.Pairwise fun p q => p.blk ≠ q.blk) (hn : ∀ q, q ∈ A → q.blk ≠ p.blk) : (insPg p A).Pairwise fun p q => p.blk ≠ q.blk := by
  induction A with
  | nil => simp [insPg]
  | cons a r ih =>
    rw [List.pairwise_cons] at h
    unfold insPg
    split
    · rw [List.pairwise_cons, List.pairwise_cons]
      exact ⟨fun q hq => (hn q hq).symm, h.1, h.2⟩
    · rw [List.pairwise_cons]
      refine ⟨fun q hq => ?_, ih h.2 fun q hq => hn q (by simp [hq])⟩
      rcases mem_insPg.1 hq with rfl | hq'
      · exact hn a (by simp)
      · exact h.1 q hq'
theorem atAddr_none {A : List Pg} {x : Int} (h : atAddr A x = none) : ∀ q, q ∈ A → q.addr ≠ x := by
  intro q hq e
  have := List.find?_eq_none.1 h q hq
  simp at this
  exact this e
theorem atAddr_eq_none {A : List Pg} {x : Int} (h : ∀ q, q ∈ A → q.addr ≠ x) : atAddr A x = none := List.find?_eq_none.2 fun q hq => by simpa using h q hq
theorem atAddr_eq_some {A : List Pg} {p : Pg} (h : A.Pairwise fun p q => p.addr < q.addr) (hp : p ∈ A) : atAddr A p.addr = some p := by
  cases hq : atAddr A p.addr with
  | none => exact absurd rfl (atAddr_none hq p hp)
  | some q => have := atAddr_mem hq; rw [addr_eq_of_up h this.1 hp this.2]
theorem atAddr_ins {p : Pg} {A : List Pg} (h : A.Pairwise fun p q => p.addr < q.addr) (hn : atAddr A p.addr = none) (x : Int) : atAddr (insPg p A) x = if x = p.addr then some p else atAddr A x := by
  have hu := up_insPg (p := p) h (atAddr_none hn)
  by_cases e : x = p.addr
  · rw [if_pos e, e, atAddr_eq_some hu (mem_insPg.2 (.inl rfl))]
  · rw [if_neg e]
    cases hq : atAddr A x with
    | none =>
      refine atAddr_eq_none fun q hq' => ?_
      rcases mem_insPg.1 hq' with rfl | hq''
      · exact fun g => e g.symm
      · exact atAddr_none hq q hq''
    | some q =>
      have hm := atAddr_mem hq
      rw [← hm.2, atAddr_eq_some hu (mem_insPg.2 (.inr hm.1))]
theorem len_up {A : List Pg} (h : A.Pairwise fun p q => p.addr < q.addr) (ok : ∀ p, p ∈ A → p.ok) (lo : Int) (hlo : ∀ p, p ∈ A → lo ≤ p.addr) (h0 : lo ≤ 1048576) : lo + 256 * A.length ≤ 1048576 := by
  induction A generalizing lo with
  | nil => simpa using h0
  | cons a r ih =>
    rw [List.pairwise_cons] at h
    have ha := ok a (by simp)
    have := ha.a1
    have := ha.a2
    have hl := hlo a (by simp)
    have := ih h.2 (fun p hp => ok p (by simp [hp])) (a.addr + 256) (fun p hp => by
      have h1 := h.1 p hp
      have h2 := (ok p (by simp [hp])).a2
      omega) (by omega)
    simp only [List.length_cons]
    omega
theorem Spc.len {w : World} {sb mb : Nat} {A : List Pg} (h : Spc w sb mb A) : A.length ≤ 4096 := by
  have := len_up h.up h.ok 0 (fun p hp => (h.ok p hp).a0) (by omega)
  omega
theorem own_tight {w : World} {P : Program} {k : TypeId} {R : Value → Option (DataW Unit × List MemPlace)} {b n : Nat} {D : DataW Unit} (h : w.ownsMap P k R b n D) : w.ownsMap P k R b (Maps.size D) D := by
  obtain ⟨es, clock, hb, F, hs, rfl⟩ := h
  exact ⟨es, clock, hb, F, by simp [Maps.size, length_sorted], rfl⟩
def pgNew (addr : Int) (blk : Nat) (perm : Int) : Pg := ⟨addr, blk, perm, List.replicate 256 0⟩
/-- 'm.pages[addr] = &page{perm: perm}', behind the box. -/
theorem Spc.insert {w : World} {sb mb : Nat} {A : List Pg} (h : Spc w sb mb A) (addr perm : Int) (h0 : 0 ≤ addr) (h1 : addr < 1048576) (h2 : addr % 256 = 0) (p0 : 0 ≤ perm) (p1 : perm ≤ 7) (hn : atAddr A addr = none) (blk : Nat) (hblk : w.heap[blk]? = some (.cells (pgNew addr blk perm).cells 78 (0, 0)))
    (hfresh : ¬ Spc.foot sb mb A blk) :
    ∃ w', (Instr.mapUpdate 70 (.map (some mb)) (.int .u32 addr) (.pointer (some ⟨blk, 0, none⟩))).run Try.prog w = .ok () w' ∧ Spc w' sb mb (insPg (pgNew addr blk perm) A) ∧ Mod (fun k => k = mb) w w' := by
  obtain ⟨D, n, ho, hv, hs⟩ := h.map
  have ht := own_tight ho
  have hl := h.len
  have K := Maps.int_keyed (P := Try.prog) Try.underlying27
  have hk := Maps.keyOf_int_mk (P := Try.prog) Try.underlying27 (wf_u32 h0 (by omega : addr ≤ 4294967295))
  obtain ⟨w', hrun, how, htu⟩ := ht.store K Try.underlying70 (by rw [hs]; unfold maxLen; omega) (val := .pointer (some ⟨blk, 0, none⟩)) (d := .lit (.int .i64 blk)) (ps := []) hk rfl
  have hg := htu.grown
  have hne : ∀ k, k < w.heap.size → k ≠ mb → w'.heap[k]? = w.heap[k]? := fun k hk hkm => hg.block k hk (by simpa using hkm)
  refine ⟨w', hrun, ⟨?_, ?_, ?_, ?_, ?_, ?_⟩, ⟨hg.os, hg.tape, hg.output, hg.size, fun k hk hkm => hne k hk hkm⟩⟩
  · exact (hne sb (h.lt (.inl rfl)) h.ne_hm).trans h.head
  · refine ⟨_, _, how, fun x zd => ?_, ?_⟩
    · rw [atAddr_ins h.up hn]
      by_cases e : x = addr
      · subst e
        rw [if_pos (show x = (pgNew x blk perm).addr from rfl), Maps.atKey_put_same ht.isMap (K.key hk)]
        rfl
      · rw [if_neg (show ¬ x = (pgNew addr blk perm).addr from e), Maps.atKey_put_other (by intro g; simp at g; exact e g), hv]
    · rw [Maps.size_put (ht.tidy K), length_insPg, hs]
      have : Maps.has D (.int .u32 addr) = false := Maps.has_false_of_atKey fun z => by rw [hv, hn]
      rw [this]
      rfl
  · intro p hp
    rcases mem_insPg.1 hp with rfl | hp'
    · exact (hne _ (lt_of_block hblk) (fun e => hfresh (.inr (.inl e)))).trans hblk
    · exact (hne p.blk (lt_of_block (h.page p hp')) (h.ne_map hp').symm).trans (h.page p hp')
  · intro p hp
    rcases mem_insPg.1 hp with rfl | hp'
    · exact ⟨h0, h1, h2, p0, p1, List.length_replicate, fun x hx => by have := List.eq_of_mem_replicate hx; omega⟩
    · exact h.ok p hp'
  · exact up_insPg h.up (atAddr_none hn)
  · exact pw_insPg h.blks fun q hq e => hfresh (.inr (.inr ⟨q, hq, e.symm⟩))
end Go.Proofs.Ytldmglodjafklaa
