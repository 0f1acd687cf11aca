/- Spaces whose pages have the same addresses, perms and bytes answer alike. -/
import Derived.Test.YtkbhokmnbpnlbaaGreatRspE
import Derived.Test.YtkbhokmnbpnlbaaGreatSpcY
namespace Go.Proofs.YtkbhokmnbpnlbaaGreat
open Go.RowKit
set_option linter.unusedVariables false
namespace Cor
theorem find_map (A : List Pg) (x : Int) : (atAddr A x).map Pg.core = (cores A).find? fun c => c.1 == x := by
  unfold atAddr cores
  rw [List.find?_map]
  rfl
theorem at_eq {A B : List Pg} (h : cores A = cores B) (x : Int) : (atAddr A x).map Pg.core = (atAddr B x).map Pg.core := by rw [find_map, find_map, h]
theorem page_eq {A B : List Pg} (h : cores A = cores B) (x : Int) : (pageAt A x).map Pg.core = (pageAt B x).map Pg.core := at_eq h _
theorem page_cases {A B : List Pg} (h : cores A = cores B) (x : Int) : (pageAt A x = none ∧ pageAt B x = none) ∨ ∃ p q, pageAt A x = some p ∧ pageAt B x = some q ∧ p.addr = q.addr ∧ p.perm = q.perm ∧ p.bytes = q.bytes := by
  have e := page_eq h x
  cases hA : pageAt A x with
  | none => cases hB : pageAt B x with
    | none => exact .inl ⟨rfl, rfl⟩
    | some q => rw [hA, hB] at e; cases e
  | some p => cases hB : pageAt B x with
    | none => rw [hA, hB] at e; cases e
    | some q =>
      rw [hA, hB] at e
      simp only [Option.map_some, Option.some.injEq, Pg.core, Prod.mk.injEq] at e
      exact .inr ⟨p, q, rfl, rfl, e.1, e.2.1, e.2.2⟩
theorem okAt {A B : List Pg} (h : cores A = cores B) (need x : Int) : Sp.okAt A need x = Sp.okAt B need x := by
  unfold Sp.okAt
  rcases page_cases h x with ⟨h1, h2⟩ | ⟨p, q, h1, h2, _, e, _⟩
  · rw [h1, h2]
  · rw [h1, h2]; simp only [e]
theorem byteAt {A B : List Pg} (h : cores A = cores B) (x : Int) : Sp.byteAt A x = Sp.byteAt B x := by
  unfold Sp.byteAt
  rcases page_cases h x with ⟨h1, h2⟩ | ⟨p, q, h1, h2, _, _, e⟩
  · rw [h1, h2]
  · rw [h1, h2]; simp only [e]
theorem fitsB {A B : List Pg} (h : cores A = cores B) (addr : Int) (n : Nat) (need : Int) : Sp.fitsB A addr n need = Sp.fitsB B addr n need := by
  unfold Sp.fitsB
  congr 1
  funext k
  exact okAt h need _
theorem fitsE {A B : List Pg} (h : cores A = cores B) (addr : Int) (n : Nat) (need : Int) : Sp.fitsE A addr n need = Sp.fitsE B addr n need := by unfold Sp.fitsE; rw [fitsB h]
theorem getL {A B : List Pg} (h : cores A = cores B) (addr : Int) (n : Nat) : Sp.getL A addr n = Sp.getL B addr n := by
  unfold Sp.getL
  congr 1
  funext k
  exact byteAt h _
theorem getE {A B : List Pg} (h : cores A = cores B) (addr n need : Int) : Sp.getE A addr n need = Sp.getE B addr n need := by unfold Sp.getE; rw [fitsE h]
theorem getS {A B : List Pg} (h : cores A = cores B) (addr n need : Int) : Sp.getS A addr n need = Sp.getS B addr n need := by unfold Sp.getS; rw [fitsB h, getL h]
theorem some_eq {A B : List Pg} (h : cores A = cores B) (x : Int) : (pageAt A x).isSome = (pageAt B x).isSome := by
  rcases page_cases h x with ⟨h1, h2⟩ | ⟨p, q, h1, h2, _⟩ <;> rw [h1, h2] <;> rfl
theorem mapE {A B : List Pg} (h : cores A = cores B) (addr perm : Int) : Sp.mapE A addr perm = Sp.mapE B addr perm := by unfold Sp.mapE; rw [some_eq h]
theorem unmapE {A B : List Pg} (h : cores A = cores B) (addr : Int) : Sp.unmapE A addr = Sp.unmapE B addr := by unfold Sp.unmapE; rw [some_eq h]
theorem permB {A B : List Pg} (h : cores A = cores B) (addr : Int) : Sp.permB A addr = Sp.permB B addr := some_eq h _
theorem permV {A B : List Pg} (h : cores A = cores B) (addr : Int) : Sp.permV A addr = Sp.permV B addr := by
  unfold Sp.permV
  rcases page_cases h addr with ⟨h1, h2⟩ | ⟨p, q, h1, h2, _, e, _⟩
  · rw [h1, h2]
  · rw [h1, h2]; exact e
theorem addrs_eq {A B : List Pg} (h : cores A = cores B) : Pag.addrs A = Pag.addrs B := by
  have := congrArg (List.map Prod.fst) h
  unfold cores at this
  rw [List.map_map, List.map_map] at this
  exact this
theorem len_eq {A B : List Pg} (h : cores A = cores B) : A.length = B.length := by
  have := congrArg List.length h
  unfold cores at this
  simpa using this
/-! ### What is done, done to both -/
theorem cons_inv {A : List Pg} {q : Pg} {B : List Pg} (h : cores A = cores (q :: B)) : ∃ p A', A = p :: A' ∧ p.core = q.core ∧ cores A' = cores B := by
  cases A with
  | nil => cases h
  | cons p A' =>
    have h' : p.core :: cores A' = q.core :: cores B := h
    rw [List.cons.injEq] at h'
    exact ⟨p, A', rfl, h'.1, h'.2⟩
theorem nil_inv {A : List Pg} (h : cores A = cores []) : A = [] := by
  cases A with
  | nil => rfl
  | cons p A' => cases h
theorem addr_of {p q : Pg} (h : p.core = q.core) : p.addr = q.addr := congrArg Prod.fst h
theorem ins {p q : Pg} (hpq : p.core = q.core) : ∀ {A B : List Pg}, cores A = cores B → cores (insPg p A) = cores (insPg q B)
  | A, [], h => by rw [nil_inv h]; show [p.core] = [q.core]; rw [hpq]
  | A, b :: B, h => by
    obtain ⟨a, A', rfl, e, h'⟩ := cons_inv h
    have e1 := addr_of e
    have e2 := addr_of hpq
    show cores (if p.addr < a.addr then _ else _) = cores (if q.addr < b.addr then _ else _)
    rw [e1, e2]
    split
    · show p.core :: a.core :: cores A' = q.core :: b.core :: cores B
      rw [hpq, e, h']
    · show a.core :: cores (insPg p A') = b.core :: cores (insPg q B)
      rw [e, ins hpq h']
theorem del (x : Int) : ∀ {A B : List Pg}, cores A = cores B → cores (delPg x A) = cores (delPg x B)
  | A, [], h => by rw [nil_inv h]
  | A, b :: B, h => by
    obtain ⟨a, A', rfl, e, h'⟩ := cons_inv h
    have e1 := addr_of e
    have ih := del x h'
    unfold delPg at ih ⊢
    rw [List.filter_cons, List.filter_cons, e1]
    split
    · show a.core :: cores _ = b.core :: cores _
      rw [e, ih]
    · exact ih
theorem set_core (x v : Int) {p q : Pg} (h : p.core = q.core) : (setPg x v p).core = (setPg x v q).core := by
  have h1 := addr_of h
  have h2 : p.perm = q.perm := congrArg (fun c => c.2.1) h
  have h3 : p.bytes = q.bytes := congrArg (fun c => c.2.2) h
  unfold setPg Pg.core
  rw [h1]
  split
  · first | (simp only [h2, h3]; done) | (simp only [h1, h2, h3]; done)
  · first | exact h | (simp only [h2, h3]; done)
theorem set (x v : Int) : ∀ {A B : List Pg}, cores A = cores B → cores (setByte A x v) = cores (setByte B x v)
  | A, [], h => by rw [nil_inv h]
  | A, b :: B, h => by
    obtain ⟨a, A', rfl, e, h'⟩ := cons_inv h
    show (setPg x v a).core :: cores (setByte A' x v) = (setPg x v b).core :: cores (setByte B x v)
    rw [set_core x v e, set x v h']
theorem put (addr : Int) (xs : List Int) {A B : List Pg} (h : cores A = cores B) : ∀ k, cores (putN A addr xs k) = cores (putN B addr xs k)
  | 0 => h
  | k + 1 => set _ _ (put addr xs h k)
theorem putA {A B : List Pg} (h : cores A = cores B) (addr need : Int) (s : ByteArray) : cores (Sp.putA A addr need s) = cores (Sp.putA B addr need s) := by
  unfold Sp.putA
  rw [fitsB h]
  split
  · exact put _ _ h _
  · exact h
theorem mapA {A B : List Pg} (h : cores A = cores B) (addr : Int) (b c : Nat) (perm : Int) : cores (Sp.mapA A addr b perm) = cores (Sp.mapA B addr c perm) := by
  unfold Sp.mapA
  rw [mapE h]
  split
  · exact ins (p := pgNew addr b perm) (q := pgNew addr c perm) rfl h
  · exact h
theorem unmapA {A B : List Pg} (h : cores A = cores B) (addr : Int) : cores (Sp.unmapA A addr) = cores (Sp.unmapA B addr) := by
  unfold Sp.unmapA
  rw [unmapE h]
  split
  · exact del _ h
  · exact h
end Cor
end Go.Proofs.YtkbhokmnbpnlbaaGreat
