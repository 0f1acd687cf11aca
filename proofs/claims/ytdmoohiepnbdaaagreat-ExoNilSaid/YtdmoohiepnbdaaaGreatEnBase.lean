/- Base, Mod, Spc in one text. -/
import Derived.WalkKit
import Derived.RowKit3
import Derived.Lib.Hide
import Derived.Laws.BytesArg
import Derived.Laws.IdiomStrings
import Derived.Laws.BitsAllLaws
import Derived.Laws.Bits64
import Derived.Laws.OwnMore
import Derived.OwnWalk
import Derived.WalkSmall
import Derived.Lib.IndexBytes
import Derived.Maps.RangeWalk
import Derived.Laws.Rows
import Derived.Test.YtdmoohiepnbdaaaGreatProg
namespace Go.Proofs.YtdmoohiepnbdaaaGreat
open Go.RowKit
theorem below_th {a b c : World} (h : Below a.heap.size a b) (k : Below b.heap.size b c) : Below a.heap.size a c := h.trans (k.mono h.size)
theorem ret_int {k : IntKind} {a b : Int} (h : a = b) : Ending.returned (.int k a) = .returned (.int k b) := by rw [h]
theorem ret_str {a b : ByteArray} (h : a = b) : Ending.returned (.string a) = .returned (.string b) := by rw [h]
theorem ret_ie {k : IntKind} {a b c : Int} (h : a = b) : Ending.returned (.tuple #[.int k a, .int .i64 c]) = .returned (.tuple #[.int k b, .int .i64 c]) := by rw [h]
def nums (s : ByteArray) : List Int := s.data.toList.map fun b => (b.toNat : Int)
theorem nums_length (s : ByteArray) : (nums s).length = s.size := by
  unfold nums
  rw [List.length_map, Array.length_toList]
  rfl
theorem nums_strOfNums (xs : List Int) (h : ∀ x, x ∈ xs → 0 ≤ x ∧ x < 256) : nums (strOfNums xs) = xs := by
  unfold nums
  rw [strOfNums_data, List.map_map]
  conv => rhs; rw [← List.map_id xs]
  apply List.map_congr_left
  intro x hx
  have := h x hx
  show ((UInt8.ofNat x.toNat).toNat : Int) = x
  rw [UInt8.toNat_ofNat']
  omega
theorem nums_bd (s : ByteArray) : ∀ x, x ∈ nums s → 0 ≤ x ∧ x < 256 := by
  intro x hx
  simp only [nums, List.mem_map] at hx
  obtain ⟨b, _, rfl⟩ := hx
  exact ⟨by omega, by have := b.toNat_lt; omega⟩
theorem nums_at (s : ByteArray) (j : Nat) (hj : j < s.data.size) : (nums s).getD j 0 = (s.data[j].toNat : Int) := by
  simp only [nums, List.getD]
  rw [List.getElem?_map, List.getElem?_eq_getElem (by simpa using hj)]
  simp
theorem nums_get (s : ByteArray) (j : Nat) (hj : j < s.size) : ((s[j]'hj).toNat : Int) = (nums s).getD j 0 := (nums_at s j hj).symm
theorem fresh_bytes (w : World) (s : ByteArray) (c j : Nat) (t : TypeId) (fr : Nat × Nat) (hj : j < s.size) : (w.alloc (.cells (bytesRow s c) t fr)).drew.cell? ⟨w.heap.size, j, none⟩ = some (.int .u8 ((nums s).getD j 0)) := by
  have h := World.cell?_alloc_mark w (bytesRow s c) t fr j
  rw [nums_at s j hj, ← bytesRow_at s c j hj]
  exact h
theorem cells4 (w : World) (a b c d : Value) (t : TypeId) (i : Nat) : (w.alloc (.cells #[a, b, c, d] t)).cell? ⟨w.heap.size, 0 + i, none⟩ = [a, b, c, d][i]? := by
  rw [World.cell?_alloc_mark]; simp
def Buf (w : World) (base : Nat) (e : TypeId) (v : Value) (xs : List Int) : Prop := w.ownsRow base e 1 v xs.length (xs.map (Value.int .u8))
theorem Buf.nil (w : World) (base : Nat) (e : TypeId) : Buf w base e (.slice none 0 0) [] := World.ownsRow_nil _ _ _ _
theorem Buf.lt {w : World} {base : Nat} {e : TypeId} {v : Value} {xs : List Int} (h : Buf w base e v xs) : ∀ k, v.ownBlock = some k → base ≤ k := fun k hk => (World.ownsRow.lt h k hk).1
theorem Buf.string {P : Program} {w : World} {base : Nat} {e : TypeId} {v : Value} {xs : List Int} (h : Buf w base e v xs) (src dst : TypeId) (hs : P.underlying src = some (.slice e)) (he : P.underlying e = some (.int .u8)) (hd : P.underlying dst = some .string) :
    (convert src dst v).run P w = .ok (.string (strOfNums xs)) w := by
  have h0 := h
  rcases h.2 with ⟨rfl, hn⟩ | ⟨g, cap, cur, rfl, _⟩
  · have : xs = [] := List.length_eq_zero_iff.1 hn
    subst this
    exact run_convert_bytes_nil w src e hs he 0 0 dst hd
  · refine run_convert_bytes_arg w src e hs he g 0 xs.length cap xs rfl (fun i hi => ?_) dst hd
    rw [Nat.zero_add, World.ownsRow.cellAt h0 i (by omega), List.getElem?_map, List.getD, List.getElem?_eq_getElem hi]
    rfl
theorem Buf.app {w : World} {base : Nat} {e : TypeId} {v : Value} {xs ys : List Int} {n : Nat} (h : w.ownsRow base e 1 v n (xs.map (Value.int .u8) ++ ys.map (Value.int .u8))) : Buf w base e v (xs ++ ys) := by
  have hl := h.1
  unfold Buf
  rw [List.map_append]
  have : n = (xs ++ ys).length := by simp at hl; simp; omega
  rw [← this]
  exact h
theorem nums_drop (s : ByteArray) (k : Nat) : nums (s.extract k s.size) = (nums s).drop k := by
  unfold nums
  rw [Lib.extract_to_end, List.map_drop]
theorem byte_bd (b : UInt8) : 0 ≤ (b.toNat : Int) ∧ (b.toNat : Int) < 256 := by have := b.toNat_lt; omega
end Go.Proofs.YtdmoohiepnbdaaaGreat
namespace Go.Proofs.YtdmoohiepnbdaaaGreat
open Go.RowKit
structure Mod (F : Nat → Prop) (w w' : World) : Prop where
  os : w'.os = w.os
  tape : w'.tape = w.tape
  output : w'.output = w.output
  size : w.heap.size ≤ w'.heap.size
  block : ∀ k, k < w.heap.size → ¬ F k → w'.heap[k]? = w.heap[k]?
theorem Mod.refl (F : Nat → Prop) (w : World) : Mod F w w := ⟨rfl, rfl, rfl, Nat.le_refl _, fun _ _ _ => rfl⟩
theorem Mod.of_below {w w' : World} (h : Below w.heap.size w w') (F : Nat → Prop) : Mod F w w' := ⟨h.os, h.tape, h.output, h.size, fun k hk _ => h.block k hk⟩
theorem Mod.trans {F G : Nat → Prop} {a b c : World} (h : Mod F a b) (k : Mod G b c) (hg : ∀ i, i < b.heap.size → G i → F i ∨ a.heap.size ≤ i) : Mod F a c :=
  ⟨k.os.trans h.os, k.tape.trans h.tape, k.output.trans h.output, Nat.le_trans h.size k.size, fun i hi hf =>
    (k.block i (Nat.lt_of_lt_of_le hi h.size) (fun g => by
      rcases hg i (Nat.lt_of_lt_of_le hi h.size) g with g | g
      · exact hf g
      · omega)).trans (h.block i hi hf)⟩
theorem Mod.mono {F G : Nat → Prop} {w w' : World} (h : Mod F w w') (hf : ∀ i, i < w.heap.size → F i → G i) : Mod G w w' := ⟨h.os, h.tape, h.output, h.size, fun k hk hn => h.block k hk fun g => hn (hf k hk g)⟩
theorem Mod.same {F : Nat → Prop} {a b c : World} (h : Mod F a b) (k : Mod F b c) : Mod F a c := h.trans k fun _ _ g => .inl g
theorem Mod.below {F : Nat → Prop} {a w w' : World} {B : Nat} (k : Below B a w) (h : Mod F w w') (hB : B ≤ w.heap.size) (hf : ∀ i, i < w.heap.size → F i → B ≤ i) : Below B a w' :=
  k.trans ⟨h.os, h.tape, h.output, h.size, fun i hi => h.block i (by omega) fun g => by have := hf i (by omega) g; omega⟩
theorem Mod.toBelow {w w' : World} (h : Mod (fun _ => False) w w') : Below w.heap.size w w' := ⟨h.os, h.tape, h.output, h.size, fun k hk => h.block k hk id⟩
theorem Mod.drew {F : Nat → Prop} {a w : World} (h : Mod F a w) : Mod F a w.drew := ⟨h.os, h.tape, h.output, h.size, h.block⟩
theorem Mod.alloc {F : Nat → Prop} {a w : World} (h : Mod F a w) (o : Obj) : Mod F a (w.alloc o) :=
  ⟨h.os, h.tape, h.output, Nat.le_trans h.size (by simp), fun k hk hf => (Below.heap_alloc _ _ _ (Nat.lt_of_lt_of_le hk h.size)).trans (h.block k hk hf)⟩
theorem Mod.setCell {F : Nat → Prop} {a w : World} (h : Mod F a w) (p : Addr) (hp : F p.block ∨ a.heap.size ≤ p.block) (u : Value) : Mod F a (w.setCell p u) :=
  ⟨h.os, h.tape, h.output, Nat.le_trans h.size (by simp [World.setCell]), fun k hk hf => (Below.heap_setCell _ _ _ _ (fun e => by subst e; rcases hp with g | g; exact hf g; omega)).trans (h.block k hk hf)⟩
end Go.Proofs.YtdmoohiepnbdaaaGreat
namespace Go.Proofs.YtdmoohiepnbdaaaGreat
open Go.RowKit
structure Pg where
  addr : Int
  blk : Nat
  perm : Int
  bytes : List Int
def Pg.cells (p : Pg) : Array Value := (Value.int .u8 p.perm :: p.bytes.map (Value.int .u8)).toArray
structure Pg.ok (p : Pg) : Prop where
  a0 : 0 ≤ p.addr
  a1 : p.addr < 1048576
  a2 : p.addr % 256 = 0
  p0 : 0 ≤ p.perm
  p1 : p.perm ≤ 7
  len : p.bytes.length = 256
  bd : ∀ x, x ∈ p.bytes → 0 ≤ x ∧ x < 256
def ptrElem (v : Value) : Option (DataW Unit × List MemPlace) :=
  match v with
  | .pointer none => some (.lit (.int .i64 (-1)), [])
  | .pointer (some ⟨b, 0, none⟩) => some (.lit (.int .i64 b), [])
  | _ => none
theorem ptrElem_inv {v : Value} {z : Int} {ps : List MemPlace} (h : ptrElem v = some (.lit (.int .i64 z), ps)) : (v = .pointer none ∧ z = -1) ∨ (∃ b : Nat, v = .pointer (some ⟨b, 0, none⟩) ∧ z = b) := by
  unfold ptrElem at h
  split at h
  · simp at h; exact .inl ⟨rfl, h.1.symm⟩
  · simp at h; exact .inr ⟨_, rfl, h.1.symm⟩
  · cases h
def atAddr (A : List Pg) (x : Int) : Option Pg := A.find? fun p => p.addr == x
def pageAt (A : List Pg) (x : Int) : Option Pg := atAddr A (x - x % 256)
def pgPtr : Option Pg → Value
  | some p => .pointer (some ⟨p.blk, 0, none⟩)
  | none => .pointer none
structure Spc (w : World) (sb mb : Nat) (A : List Pg) : Prop where
  head : w.heap[sb]? = some (.cells #[.map (some mb)] 315 (0, 0))
  map : ∃ D n, w.ownsMap Tryz.prog 41 ptrElem mb n D ∧ (∀ x zd, D.atKey (.int .u32 x) zd = match atAddr A x with | some p => .lit (.int .i64 p.blk) | none => zd) ∧ Maps.size D = A.length
  page : ∀ p, p ∈ A → w.heap[p.blk]? = some (.cells p.cells 319 (0, 0))
  ok : ∀ p, p ∈ A → p.ok
  up : A.Pairwise fun p q => p.addr < q.addr
  blks : A.Pairwise fun p q => p.blk ≠ q.blk
def Spc.foot (sb mb : Nat) (A : List Pg) (k : Nat) : Prop := k = sb ∨ k = mb ∨ ∃ p, p ∈ A ∧ k = p.blk
theorem lt_of_block {w : World} {k : Nat} {o : Obj} (h : w.heap[k]? = some o) : k < w.heap.size := (Array.getElem?_eq_some_iff.1 h).1
theorem own_of_block {w w' : World} {P : Program} {k : TypeId} {R : Value → Option (DataW Unit × List MemPlace)} {b n : Nat} {D : DataW Unit} (h : w.ownsMap P k R b n D) (e : w'.heap[b]? = w.heap[b]?) : w'.ownsMap P k R b n D := by
  obtain ⟨es, clock, hb, rest⟩ := h
  exact ⟨es, clock, e.trans hb, rest⟩
theorem Spc.lt {w : World} {sb mb : Nat} {A : List Pg} (h : Spc w sb mb A) {k : Nat} (hk : Spc.foot sb mb A k) : k < w.heap.size := by
  rcases hk with rfl | rfl | ⟨p, hp, rfl⟩
  · exact lt_of_block h.head
  · obtain ⟨D, n, ho, _⟩ := h.map; exact ho.lt
  · exact lt_of_block (h.page p hp)
theorem Spc.frame {w w' : World} {sb mb : Nat} {A : List Pg} (h : Spc w sb mb A) (hf : ∀ k, Spc.foot sb mb A k → w'.heap[k]? = w.heap[k]?) : Spc w' sb mb A := by
  refine ⟨(hf sb (.inl rfl)).trans h.head, ?_, fun p hp => (hf p.blk (.inr (.inr ⟨p, hp, rfl⟩))).trans (h.page p hp), h.ok, h.up, h.blks⟩
  obtain ⟨D, n, ho, hv, hs⟩ := h.map
  exact ⟨D, n, own_of_block ho (hf mb (.inr (.inl rfl))), hv, hs⟩
theorem Spc.keep {w w' : World} {sb mb : Nat} {A : List Pg} {F : Nat → Prop} (h : Spc w sb mb A) (hm : Mod F w w') (hf : ∀ k, Spc.foot sb mb A k → ¬ F k) : Spc w' sb mb A :=
  h.frame fun k hk => hm.block k (h.lt hk) (hf k hk)
theorem Spc.below {w w' : World} {sb mb : Nat} {A : List Pg} {B : Nat} (h : Spc w sb mb A) (hm : Below B w w') (hf : ∀ k, Spc.foot sb mb A k → k < B) : Spc w' sb mb A :=
  h.frame fun k hk => hm.block k (hf k hk)
theorem atAddr_mem {A : List Pg} {x : Int} {p : Pg} (h : atAddr A x = some p) : p ∈ A ∧ p.addr = x :=
  ⟨List.mem_of_find?_eq_some h, by have := List.find?_some h; simpa using this⟩
theorem wf_u32 {x : Int} (h0 : 0 ≤ x) (h1 : x ≤ 4294967295) : (Lit.int .u32 x).wf = true := by simp [Lit.wf, IntKind.min, IntKind.max, IntKind.signed, IntKind.bits]; omega
theorem zeroPage (w : World) : (zeroValue 313).run Tryz.prog w = .ok (.pointer none) w := by kernel_rfl
theorem Spc.look {w : World} {sb mb : Nat} {A : List Pg} (h : Spc w sb mb A) (x : Int) (h0 : 0 ≤ x) (h1 : x ≤ 4294967295) :
    (Instr.lookup 312 (.map (some mb)) (.int .u32 x) false).run Tryz.prog w = .ok (pgPtr (atAddr A x)) w := by
  obtain ⟨D, n, ho, hv, _⟩ := h.map
  obtain ⟨v, ps, hrun, hR⟩ := ho.lookup (Maps.int_keyed Tryz.underlying41) Tryz.underlying312 (zeroPage w) (z := .pointer none) (zd := .lit (.int .i64 (-1))) (zp := []) rfl (Maps.keyOf_int_mk Tryz.underlying41 (wf_u32 h0 h1))
  rw [hrun]
  rw [hv] at hR
  cases hp : atAddr A x with
  | none =>
    rw [hp] at hR
    rcases ptrElem_inv hR with ⟨rfl, _⟩ | ⟨b, _, hb⟩
    · rfl
    · omega
  | some p =>
    rw [hp] at hR
    rcases ptrElem_inv hR with ⟨_, hb⟩ | ⟨b, rfl, hb⟩
    · omega
    · have : b = p.blk := by omega
      subst this
      rfl
theorem Spc.cellHead {w : World} {sb mb : Nat} {A : List Pg} (h : Spc w sb mb A) : w.cell? ⟨sb, 0, none⟩ = some (.map (some mb)) := by
  unfold World.cell?; rw [h.head]; rfl
theorem Spc.cellPerm {w : World} {sb mb : Nat} {A : List Pg} (h : Spc w sb mb A) {p : Pg} (hp : p ∈ A) : w.cell? ⟨p.blk, 0, none⟩ = some (.int .u8 p.perm) := by
  unfold World.cell?; rw [h.page p hp]; rfl
theorem Spc.cellByte {w : World} {sb mb : Nat} {A : List Pg} (h : Spc w sb mb A) {p : Pg} (hp : p ∈ A) (j : Nat) (hj : j < 256) : w.cell? ⟨p.blk, 1 + j, none⟩ = some (.int .u8 (p.bytes.getD j 0)) := by
  rw [Nat.add_comm]
  unfold World.cell?
  rw [h.page p hp]
  have hl := (h.ok p hp).len
  simp [Pg.cells, List.getElem?_map, List.getElem?_eq_getElem (show j < p.bytes.length by omega)]
end Go.Proofs.YtdmoohiepnbdaaaGreat
