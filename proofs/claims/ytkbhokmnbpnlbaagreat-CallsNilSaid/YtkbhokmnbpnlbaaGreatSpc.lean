/- A space in memory: what its blocks hold, told by a rising list of pages. -/
import Derived.Test.YtkbhokmnbpnlbaaGreatProg
import Derived.Test.YtkbhokmnbpnlbaaGreatMod
namespace Go.Proofs.YtkbhokmnbpnlbaaGreat
open Go.RowKit
/-- A page: its address, its block, its perm, its bytes. -/
structure Pg where
  addr : Int
  blk : Nat
  perm : Int
  bytes : List Int
def Pg.cells (p : Pg) : Array Value := (Value.int .u8 p.perm :: p.bytes.map (Value.int .u8)).toArray
structure Pg.ok (p : Pg) : Prop where
  a0 : 0 ≤ p.addr
  a1 : p.addr < 1048576
  a2 : p.addr % 256 = 0
  p0 : 0 ≤ p.perm
  p1 : p.perm ≤ 7
  len : p.bytes.length = 256
  bd : ∀ x, x ∈ p.bytes → 0 ≤ x ∧ x < 256
/-- How a pointer reads as a map's element. -/
def ptrElem (v : Value) : Option (DataW Unit × List MemPlace) :=
  match v with
  | .pointer none => some (.lit (.int .i64 (-1)), [])
  | .pointer (some ⟨b, 0, none⟩) => some (.lit (.int .i64 b), [])
  | _ => none
theorem ptrElem_inv {v : Value} {z : Int} {ps : List MemPlace} (h : ptrElem v = some (.lit (.int .i64 z), ps)) : (v = .pointer none ∧ z = -1) ∨ (∃ b : Nat, v = .pointer (some ⟨b, 0, none⟩) ∧ z = b) := by
  unfold ptrElem at h
  split at h
  · simp at h; exact .inl ⟨rfl, h.1.symm⟩
  · simp at h; exact .inr ⟨_, rfl, h.1.symm⟩
  · cases h
def atAddr (A : List Pg) (x : Int) : Option Pg := A.find? fun p => p.addr == x
/-- The page in which an address lies. -/
def pageAt (A : List Pg) (x : Int) : Option Pg := atAddr A (x - x % 256)
def pgPtr : Option Pg → Value
  | some p => .pointer (some ⟨p.blk, 0, none⟩)
  | none => .pointer none
structure Spc (w : World) (sb mb : Nat) (A : List Pg) : Prop where
  head : w.heap[sb]? = some (.cells #[.map (some mb)] 231 (0, 0))
  map : ∃ D n, w.ownsMap Tryz.prog 22 ptrElem mb n D ∧ (∀ x zd, D.atKey (.int .u32 x) zd = match atAddr A x with | some p => .lit (.int .i64 p.blk) | none => zd) ∧ Maps.size D = A.length
  page : ∀ p, p ∈ A → w.heap[p.blk]? = some (.cells p.cells 228 (0, 0))
  ok : ∀ p, p ∈ A → p.ok
  up : A.Pairwise fun p q => p.addr < q.addr
  blks : A.Pairwise fun p q => p.blk ≠ q.blk
/-- The blocks of a space. -/
def Spc.foot (sb mb : Nat) (A : List Pg) (k : Nat) : Prop := k = sb ∨ k = mb ∨ ∃ p, p ∈ A ∧ k = p.blk
theorem lt_of_block {w : World} {k : Nat} {o : Obj} (h : w.heap[k]? = some o) : k < w.heap.size := (Array.getElem?_eq_some_iff.1 h).1
theorem own_of_block {w w' : World} {P : Program} {k : TypeId} {R : Value → Option (DataW Unit × List MemPlace)} {b n : Nat} {D : DataW Unit} (h : w.ownsMap P k R b n D) (e : w'.heap[b]? = w.heap[b]?) : w'.ownsMap P k R b n D := by
  obtain ⟨es, clock, hb, rest⟩ := h
  exact ⟨es, clock, e.trans hb, rest⟩
theorem Spc.lt {w : World} {sb mb : Nat} {A : List Pg} (h : Spc w sb mb A) {k : Nat} (hk : Spc.foot sb mb A k) : k < w.heap.size := by
  rcases hk with rfl | rfl | ⟨p, hp, rfl⟩
  · exact lt_of_block h.head
  · obtain ⟨D, n, ho, _⟩ := h.map; exact ho.lt
  · exact lt_of_block (h.page p hp)
theorem Spc.frame {w w' : World} {sb mb : Nat} {A : List Pg} (h : Spc w sb mb A) (hf : ∀ k, Spc.foot sb mb A k → w'.heap[k]? = w.heap[k]?) : Spc w' sb mb A := by
  refine ⟨(hf sb (.inl rfl)).trans h.head, ?_, fun p hp => (hf p.blk (.inr (.inr ⟨p, hp, rfl⟩))).trans (h.page p hp), h.ok, h.up, h.blks⟩
  obtain ⟨D, n, ho, hv, hs⟩ := h.map
  exact ⟨D, n, own_of_block ho (hf mb (.inr (.inl rfl))), hv, hs⟩
theorem Spc.keep {w w' : World} {sb mb : Nat} {A : List Pg} {F : Nat → Prop} (h : Spc w sb mb A) (hm : Mod F w w') (hf : ∀ k, Spc.foot sb mb A k → ¬ F k) : Spc w' sb mb A :=
  h.frame fun k hk => hm.block k (h.lt hk) (hf k hk)
theorem Spc.below {w w' : World} {sb mb : Nat} {A : List Pg} {B : Nat} (h : Spc w sb mb A) (hm : Below B w w') (hf : ∀ k, Spc.foot sb mb A k → k < B) : Spc w' sb mb A :=
  h.frame fun k hk => hm.block k (hf k hk)
theorem atAddr_mem {A : List Pg} {x : Int} {p : Pg} (h : atAddr A x = some p) : p ∈ A ∧ p.addr = x :=
  ⟨List.mem_of_find?_eq_some h, by have := List.find?_some h; simpa using this⟩
theorem wf_u32 {x : Int} (h0 : 0 ≤ x) (h1 : x ≤ 4294967295) : (Lit.int .u32 x).wf = true := by simp [Lit.wf, IntKind.min, IntKind.max, IntKind.signed, IntKind.bits]; omega
theorem zeroPage (w : World) : (zeroValue 223).run Tryz.prog w = .ok (.pointer none) w := by kernel_rfl
/-- 'm.pages[key]'. -/
theorem Spc.look {w : World} {sb mb : Nat} {A : List Pg} (h : Spc w sb mb A) (x : Int) (h0 : 0 ≤ x) (h1 : x ≤ 4294967295) :
    (Instr.lookup 229 (.map (some mb)) (.int .u32 x) false).run Tryz.prog w = .ok (pgPtr (atAddr A x)) w := by
  obtain ⟨D, n, ho, hv, _⟩ := h.map
  obtain ⟨v, ps, hrun, hR⟩ := ho.lookup (Maps.int_keyed Tryz.underlying22) Tryz.underlying229 (zeroPage w) (z := .pointer none) (zd := .lit (.int .i64 (-1))) (zp := []) rfl (Maps.keyOf_int_mk Tryz.underlying22 (wf_u32 h0 h1))
  rw [hrun]
  rw [hv] at hR
  cases hp : atAddr A x with
  | none =>
    rw [hp] at hR
    rcases ptrElem_inv hR with ⟨rfl, _⟩ | ⟨b, _, hb⟩
    · rfl
    · omega
  | some p =>
    rw [hp] at hR
    rcases ptrElem_inv hR with ⟨_, hb⟩ | ⟨b, rfl, hb⟩
    · omega
    · have : b = p.blk := by omega
      subst this
      rfl
theorem Spc.cellHead {w : World} {sb mb : Nat} {A : List Pg} (h : Spc w sb mb A) : w.cell? ⟨sb, 0, none⟩ = some (.map (some mb)) := by
  unfold World.cell?; rw [h.head]; rfl
theorem Spc.cellPerm {w : World} {sb mb : Nat} {A : List Pg} (h : Spc w sb mb A) {p : Pg} (hp : p ∈ A) : w.cell? ⟨p.blk, 0, none⟩ = some (.int .u8 p.perm) := by
  unfold World.cell?; rw [h.page p hp]; rfl
theorem Spc.cellByte {w : World} {sb mb : Nat} {A : List Pg} (h : Spc w sb mb A) {p : Pg} (hp : p ∈ A) (j : Nat) (hj : j < 256) : w.cell? ⟨p.blk, 1 + j, none⟩ = some (.int .u8 (p.bytes.getD j 0)) := by
  rw [Nat.add_comm]
  unfold World.cell?
  rw [h.page p hp]
  have hl := (h.ok p hp).len
  simp [Pg.cells, List.getElem?_map, List.getElem?_eq_getElem (show j < p.bytes.length by omega)]
end Go.Proofs.YtkbhokmnbpnlbaaGreat
