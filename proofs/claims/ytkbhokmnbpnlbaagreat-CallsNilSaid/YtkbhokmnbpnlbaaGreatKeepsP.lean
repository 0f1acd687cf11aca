/- The plain law behind aediculelaw05.SpaceKeeps: what was written is read, all else is as it was. -/
import Derived.Test.YtkbhokmnbpnlbaaGreatSame05
namespace Go.Proofs.YtkbhokmnbpnlbaaGreat
open Go.RowKit
set_option linter.unusedVariables false
namespace Kp
open Sp
structure Ok (A : List Pg) : Prop where
  ok : ∀ p, p ∈ A → p.ok
  up : A.Pairwise fun p q => p.addr < q.addr
theorem Ok.of {w : World} {sb mb : Nat} {A : List Pg} (h : Spc w sb mb A) : Ok A := ⟨h.ok, h.up⟩
theorem page_in {A : List Pg} (h : Ok A) {p : Pg} (hp : p ∈ A) (k : Nat) (hk : k < 256) : pageAt A (p.addr + k) = some p := by
  have a2 := (h.ok p hp).a2
  have a0 := (h.ok p hp).a0
  unfold pageAt
  rw [show p.addr + (k : Int) - (p.addr + (k : Int)) % 256 = p.addr by omega]
  exact atAddr_eq_some h.up hp
theorem ok_zero {A : List Pg} {x : Int} {p : Pg} (h : pageAt A x = some p) : okAt A 0 x = true := by
  unfold okAt
  rw [h]
  simp [bits]
  decide
theorem fits_zero {A : List Pg} {addr : Int} {n : Nat} (h : ∀ k : Nat, k < n → ∃ p, pageAt A (addr + k) = some p) : fitsB A addr n 0 = true := by
  unfold fitsB
  rw [List.all_eq_true]
  intro k hk
  obtain ⟨p, hp⟩ := h k (List.mem_range.1 hk)
  exact ok_zero hp
theorem look_eq {A : List Pg} {addr : Int} {n : Nat} (hn : n ≤ 1048576) (h : ∀ k : Nat, k < n → ∃ p, pageAt A (addr + k) = some p) : getE A addr n 0 = 0 ∧ getS A addr n 0 = strOfNums (getL A addr n) := by
  have hf := fits_zero h
  constructor
  · unfold getE; rw [if_neg (by omega), Int.toNat_natCast]; exact fitsE_yes hf
  · unfold getS; rw [if_neg (by omega), Int.toNat_natCast, if_pos hf]
theorem byte_bd' {A : List Pg} (h : Ok A) (x : Int) : 0 ≤ byteAt A x ∧ byteAt A x < 256 := by
  unfold byteAt
  cases hp : pageAt A x with
  | none => simp
  | some p =>
    show 0 ≤ p.bytes.getD _ 0 ∧ p.bytes.getD _ 0 < 256
    rw [List.getD]
    cases hg : p.bytes[(x % 256).toNat]? with
    | none => simp
    | some v => exact (h.ok p (atAddr_mem hp).1).bd v (List.mem_of_getElem? hg)
theorem getL_bd {A : List Pg} (h : Ok A) (addr : Int) (n : Nat) : ∀ x, x ∈ getL A addr n → 0 ≤ x ∧ x < 256 := by
  intro x hx
  unfold getL at hx
  obtain ⟨k, _, rfl⟩ := List.mem_map.1 hx
  exact byte_bd' h _
theorem getL_at (A : List Pg) (addr : Int) (n k : Nat) (hk : k < n) : (getL A addr n).getD k 0 = byteAt A (addr + k) := by
  unfold getL
  rw [List.getD, List.getElem?_map, List.getElem?_range hk]; rfl
/-- What Look answers at a page: 256 bytes, each told. -/
theorem page_look {A : List Pg} (h : Ok A) {p : Pg} (hp : p ∈ A) : getE A p.addr 256 0 = 0 ∧ (getS A p.addr 256 0).size = 256 ∧ ∀ k : Nat, k < 256 → (nums (getS A p.addr 256 0)).getD k 0 = byteAt A (p.addr + k) := by
  obtain ⟨h1, h2⟩ := look_eq (A := A) (addr := p.addr) (n := 256) (by omega) fun k hk => ⟨p, page_in h hp k hk⟩
  have hn : nums (getS A p.addr 256 0) = getL A p.addr 256 := by
    rw [show getS A p.addr 256 0 = strOfNums (getL A p.addr 256) from h2, nums_strOfNums _ (getL_bd h _ _)]
  refine ⟨h1, ?_, fun k hk => ?_⟩
  · rw [← nums_length, hn, getL_length]
  · rw [hn, getL_at _ _ _ _ hk]
theorem byteAt_set {A : List Pg} (h : Ok A) {x v y : Int} {p : Pg} (hp : pageAt A y = some p) : byteAt (setByte A x v) y = if y = x then v else byteAt A y := by
  have hm := atAddr_mem hp
  have hl := (h.ok p hm.1).len
  unfold byteAt
  rw [pageAt_set, hp]
  show (setPg x v p).bytes.getD (y % 256).toNat 0 = if y = x then v else p.bytes.getD (y % 256).toNat 0
  unfold setPg
  by_cases g : p.addr = x - x % 256
  · rw [if_pos (by simpa using g)]
    show (p.bytes.set (x % 256).toNat v).getD (y % 256).toNat 0 = _
    by_cases e : y = x
    · subst e
      rw [if_pos rfl, List.getD, List.getElem?_set_self (by omega)]; rfl
    · rw [if_neg e, List.getD, List.getD, List.getElem?_set_ne (by have := hm.2; omega)]
  · rw [if_neg (by simpa using g), if_neg (by intro e; subst e; exact g hm.2)]
theorem ok_set {A : List Pg} (h : Ok A) {x v : Int} (v0 : 0 ≤ v) (v1 : v < 256) : Ok (setByte A x v) := by
  constructor
  · intro p hp
    obtain ⟨q, hq, rfl⟩ := List.mem_map.1 hp
    exact setPg_ok x v q (h.ok q hq) v0 v1
  · unfold setByte
    rw [List.pairwise_map]
    simpa only [setPg_addr] using h.up
theorem putN_facts {A : List Pg} (h : Ok A) (addr : Int) (s : ByteArray) : ∀ n, n ≤ s.size → Ok (putN A addr (nums s) n) ∧ ∀ y p, pageAt A y = some p → byteAt (putN A addr (nums s) n) y = if addr ≤ y ∧ y < addr + n then (nums s).getD (y - addr).toNat 0 else byteAt A y
  | 0, _ => ⟨h, fun y p _ => by rw [if_neg (by omega)]; rfl⟩
  | n + 1, hn => by
    obtain ⟨h1, h2⟩ := putN_facts h addr s n (by omega)
    have hb := byte_bd (s[n]'(by omega))
    rw [nums_get s n (by omega)] at hb
    refine ⟨ok_set h1 hb.1 hb.2, fun y p hp => ?_⟩
    obtain ⟨q, hq, _⟩ := pageAt_putN_some hp addr (nums s) n
    show byteAt (setByte (putN A addr (nums s) n) (addr + n) ((nums s).getD n 0)) y = _
    rw [byteAt_set h1 hq, h2 y p hp]
    by_cases e : y = addr + n
    · rw [if_pos e, if_pos (by omega), show (y - addr).toNat = n by omega]
    · rw [if_neg e]
      by_cases g : addr ≤ y ∧ y < addr + n
      · rw [if_pos g, if_pos (by omega)]
      · rw [if_neg g, if_neg (by omega)]
theorem putN_addrs (A : List Pg) (addr : Int) (xs : List Int) : ∀ n, (putN A addr xs n).map (fun p => (p.addr, p.perm)) = A.map (fun p => (p.addr, p.perm))
  | 0 => rfl
  | n + 1 => by
    rw [← putN_addrs A addr xs n]
    show (setByte _ _ _).map _ = _
    unfold setByte
    rw [List.map_map]
    exact List.map_congr_left fun p _ => by show ((setPg _ _ p).addr, (setPg _ _ p).perm) = _; rw [setPg_addr, setPg_perm]
theorem putA_addrs (A : List Pg) (addr need : Int) (s : ByteArray) : (putA A addr need s).map (fun p => (p.addr, p.perm)) = A.map (fun p => (p.addr, p.perm)) := by
  unfold putA
  split
  · exact putN_addrs A addr _ _
  · rfl
/-- All that the statement asks of what was laid. E: the answer. -/
structure Facts (A A1 C : List Pg) (addr : Int) (s : ByteArray) (E : Int) : Prop where
  err : E = 0 ∨ E = 50
  read : E = 0 → getS A1 addr s.size 0 = s ∧ getE A1 addr s.size 0 = 0
  same : Pag.addrs A1 = Pag.addrs C
  page : ∀ i, i < (Pag.addrs A1).length → ∃ p, (Pag.addrs A1)[i]? = some p ∧ 0 ≤ p ∧ p < 1048576 ∧ getE A1 p 256 0 = 0 ∧ getE C p 256 0 = 0 ∧ (getS A1 p 256 0).size = 256 ∧ (getS C p 256 0).size = 256 ∧ permV A1 p = permV C p ∧
    ∀ k : Nat, k < 256 → (E = 0 ∧ addr ≤ p + k ∧ p + k < addr + s.size) ∨ (nums (getS A1 p 256 0)).getD k 0 = (nums (getS C p 256 0)).getD k 0
theorem facts {A C : List Pg} (h : Ok A) (hC : Ok C) (hc : cores C = cores A) (addr need : Int) (s : ByteArray) (hs : s.size ≤ 1000) : Facts A (putA A addr need s) C addr s (fitsE A addr s.size need) := by
  have hap := putA_addrs A addr need s
  have hmem : ∀ x : Int × Int, x ∈ (putA A addr need s).map (fun p => (p.addr, p.perm)) → x ∈ A.map (fun p => (p.addr, p.perm)) := fun x hx => hap ▸ hx
  have hA1 : Ok (putA A addr need s) := by
    unfold putA
    split
    · exact (putN_facts h addr s s.size (Nat.le_refl _)).1
    · exact h
  have hadr : Pag.addrs (putA A addr need s) = Pag.addrs A := by
    have := congrArg (List.map Prod.fst) hap
    rw [List.map_map, List.map_map] at this
    exact this
  refine ⟨?_, ?_, by rw [hadr]; exact (Cor.addrs_eq hc).symm, ?_⟩
  · unfold fitsE; split
    · exact .inl rfl
    · exact .inr rfl
  · intro hE
    have hf : fitsB A addr s.size need = true := by
      cases hf : fitsB A addr s.size need with
      | true => rfl
      | false => rw [fitsE_no hf] at hE; omega
    have hpg : ∀ k : Nat, k < s.size → ∃ p, pageAt A (addr + k) = some p := fun k hk => by
      have := fitsB_at hk hf
      unfold okAt at this
      cases hp : pageAt A (addr + k) with
      | none => rw [hp] at this; cases this
      | some p => exact ⟨p, rfl⟩
    have e1 : putA A addr need s = putN A addr (nums s) s.size := by unfold putA; rw [if_pos hf]
    obtain ⟨g1, g2⟩ := putN_facts h addr s s.size (Nat.le_refl _)
    obtain ⟨l1, l2⟩ := look_eq (A := putN A addr (nums s) s.size) (addr := addr) (n := s.size) (by omega) fun k hk => by
      obtain ⟨p, hp⟩ := hpg k hk
      obtain ⟨q, hq, _⟩ := pageAt_putN_some hp addr (nums s) s.size
      exact ⟨q, hq⟩
    rw [e1]
    refine ⟨?_, l1⟩
    rw [l2, show getL (putN A addr (nums s) s.size) addr s.size = nums s from ?_, strOfNums_nums]
    refine List.ext_getElem (by rw [getL_length, nums_length]) fun k h1 h2 => ?_
    have hk : k < s.size := by rw [getL_length] at h1; exact h1
    obtain ⟨p, hp⟩ := hpg k hk
    have e := getL_at (putN A addr (nums s) s.size) addr s.size k hk
    rw [g2 _ p hp, if_pos (by omega), show (addr + (k : Int) - addr).toNat = k by omega, List.getD, List.getD, List.getElem?_eq_getElem h1, List.getElem?_eq_getElem h2] at e
    exact e
  · intro i hi
    unfold Pag.addrs at hi
    rw [List.length_map] at hi
    obtain ⟨p, hp⟩ : ∃ p, (putA A addr need s)[i]? = some p := ⟨_, List.getElem?_eq_getElem hi⟩
    have hpm := List.mem_of_getElem? hp
    obtain ⟨k1, k2, k3⟩ := page_look hA1 hpm
    obtain ⟨q, hq, hqe⟩ := List.mem_map.1 (hmem _ (List.mem_map.2 ⟨p, hpm, rfl⟩))
    simp only [Prod.mk.injEq] at hqe
    have hcm : q.core ∈ cores C := by rw [hc]; exact List.mem_map.2 ⟨q, hq, rfl⟩
    obtain ⟨c, hcC, hce⟩ := List.mem_map.1 hcm
    have hca : c.addr = p.addr := by rw [Cor.addr_of hce, hqe.1]
    obtain ⟨j1, j2, j3⟩ := page_look hC hcC
    rw [hca] at j1 j2 j3
    have hok := hA1.ok p hpm
    refine ⟨p.addr, by unfold Pag.addrs; rw [List.getElem?_map, hp]; rfl, hok.a0, hok.a1, k1, j1, k2, j2, ?_, fun k hk => ?_⟩
    · have p1 : pageAt (putA A addr need s) p.addr = some p := by have := page_in hA1 hpm 0 (by omega); simpa using this
      have p2 : pageAt C p.addr = some c := by rw [← hca]; have := page_in hC hcC 0 (by omega); simpa using this
      unfold permV
      rw [p1, p2]
      show p.perm = c.perm
      rw [show c.perm = q.perm from congrArg (fun x => x.2.1) hce, hqe.2]
    · rw [k3 k hk, j3 k hk, Cor.byteAt hc]
      have hpA : pageAt A (p.addr + k) = some q := by rw [← hqe.1]; exact page_in h hq k hk
      cases hf : fitsB A addr s.size need with
      | false => right; unfold putA; rw [hf]; rfl
      | true =>
        have e1 : putA A addr need s = putN A addr (nums s) s.size := by unfold putA; rw [if_pos hf]
        rw [e1, (putN_facts h addr s s.size (Nat.le_refl _)).2 _ q hpA]
        by_cases g : addr ≤ p.addr + k ∧ p.addr + k < addr + s.size
        · exact .inl ⟨fitsE_yes hf, g⟩
        · rw [if_neg g]; exact .inr rfl
end Kp
end Go.Proofs.YtkbhokmnbpnlbaaGreat
