/- Small lemmas that all texts of this seat lean on: worlds that only grow, numbers of bytes. -/
import Derived.WalkKit
import Derived.RowKit3
import Derived.Lib.Hide
import Derived.Laws.BytesArg
import Derived.Laws.IdiomStrings
import Derived.Laws.BitsAllLaws
import Derived.Laws.Bits64
import Derived.Laws.OwnMore
import Derived.OwnWalk
import Derived.WalkSmall
import Derived.Lib.IndexBytes
namespace Go.Proofs.YtohlgcdailconaaGreatDoor
open Go.RowKit
theorem below_th {a b c : World} (h : Below a.heap.size a b) (k : Below b.heap.size b c) : Below a.heap.size a c := h.trans (k.mono h.size)
theorem ret_int {k : IntKind} {a b : Int} (h : a = b) : Ending.returned (.int k a) = .returned (.int k b) := by rw [h]
theorem ret_str {a b : ByteArray} (h : a = b) : Ending.returned (.string a) = .returned (.string b) := by rw [h]
theorem ret_ie {k : IntKind} {a b c : Int} (h : a = b) : Ending.returned (.tuple #[.int k a, .int .i64 c]) = .returned (.tuple #[.int k b, .int .i64 c]) := by rw [h]
theorem ret_se {a b : ByteArray} {c : Int} (h : a = b) : Ending.returned (.tuple #[.string a, .int .i64 c]) = .returned (.tuple #[.string b, .int .i64 c]) := by rw [h]
def nums (s : ByteArray) : List Int := s.data.toList.map fun b => (b.toNat : Int)
theorem nums_length (s : ByteArray) : (nums s).length = s.size := by
  unfold nums
  rw [List.length_map, Array.length_toList]
  rfl
theorem strOfNums_nums (s : ByteArray) : strOfNums (nums s) = s := by
  apply ByteArray.ext
  apply Array.toList_inj.1
  rw [strOfNums_data]
  unfold nums
  rw [List.map_map]
  conv => rhs; rw [← List.map_id s.data.toList]
  apply List.map_congr_left
  intro x _
  simp
theorem nums_strOfNums (xs : List Int) (h : ∀ x, x ∈ xs → 0 ≤ x ∧ x < 256) : nums (strOfNums xs) = xs := by
  unfold nums
  rw [strOfNums_data, List.map_map]
  conv => rhs; rw [← List.map_id xs]
  apply List.map_congr_left
  intro x hx
  have := h x hx
  show ((UInt8.ofNat x.toNat).toNat : Int) = x
  rw [UInt8.toNat_ofNat']
  omega
theorem nums_bd (s : ByteArray) : ∀ x, x ∈ nums s → 0 ≤ x ∧ x < 256 := by
  intro x hx
  simp only [nums, List.mem_map] at hx
  obtain ⟨b, _, rfl⟩ := hx
  exact ⟨by omega, by have := b.toNat_lt; omega⟩
theorem nums_at (s : ByteArray) (j : Nat) (hj : j < s.data.size) : (nums s).getD j 0 = (s.data[j].toNat : Int) := by
  simp only [nums, List.getD]
  rw [List.getElem?_map, List.getElem?_eq_getElem (by simpa using hj)]
  simp
theorem nums_get (s : ByteArray) (j : Nat) (hj : j < s.size) : ((s[j]'hj).toNat : Int) = (nums s).getD j 0 := (nums_at s j hj).symm
/-- The bytes of a row at block b. -/
def Row8 (w : World) (b : Nat) (xs : List Int) : Prop := ∀ i, i < xs.length → w.cell? ⟨b, 0 + i, none⟩ = some (.int .u8 (xs.getD i 0))
theorem row8_of2 {w : World} {b : Nat} {x y : Int} (h0 : w.cell? ⟨b, 0, none⟩ = some (.int .u8 x)) (h1 : w.cell? ⟨b, 1, none⟩ = some (.int .u8 y)) : Row8 w b [x, y] := by
  intro i hi
  have : i = 0 ∨ i = 1 := by simp at hi; omega
  rcases this with rfl | rfl
  · simpa using h0
  · simpa using h1
theorem row8_of4 {w : World} {b : Nat} {x y z u : Int} (h0 : w.cell? ⟨b, 0, none⟩ = some (.int .u8 x)) (h1 : w.cell? ⟨b, 1, none⟩ = some (.int .u8 y)) (h2 : w.cell? ⟨b, 2, none⟩ = some (.int .u8 z)) (h3 : w.cell? ⟨b, 3, none⟩ = some (.int .u8 u)) : Row8 w b [x, y, z, u] := by
  intro i hi
  have : i = 0 ∨ i = 1 ∨ i = 2 ∨ i = 3 := by simp at hi; omega
  rcases this with rfl | rfl | rfl | rfl
  · simpa using h0
  · simpa using h1
  · simpa using h2
  · simpa using h3
/-- '[]byte(s)': the new row's cells, and that none of them is frozen. -/
theorem fresh_bytes (w : World) (s : ByteArray) (c j : Nat) (t : TypeId) (fr : Nat × Nat) (hj : j < s.size) : (w.alloc (.cells (bytesRow s c) t fr)).drew.cell? ⟨w.heap.size, j, none⟩ = some (.int .u8 ((nums s).getD j 0)) := by
  have h := World.cell?_alloc_mark w (bytesRow s c) t fr j
  rw [nums_at s j hj, ← bytesRow_at s c j hj]
  exact h
theorem fresh_free (w : World) (s : ByteArray) (c j : Nat) (t : TypeId) (hj : j < s.size) : (w.alloc (.cells (bytesRow s c) t ((bytesRow s c).size, (bytesRow s c).size + 1))).drew.frozen? ⟨w.heap.size, j, none⟩ = false := by
  have h := World.frozen?_alloc_mark w (bytesRow s c) t (bytesRow s c).size ((bytesRow s c).size + 1) j
  have e : decide ((bytesRow s c).size ≤ j) = false := by
    apply decide_eq_false
    have : s.data.size ≤ (bytesRow s c).size := by simp [bytesRow]
    have : s.size = s.data.size := rfl
    omega
  rw [e, Bool.false_and] at h
  exact h
theorem cells4 (w : World) (a b c d : Value) (t : TypeId) (i : Nat) : (w.alloc (.cells #[a, b, c, d] t)).cell? ⟨w.heap.size, 0 + i, none⟩ = [a, b, c, d][i]? := by
  rw [World.cell?_alloc_mark]; simp
/-- A buffer of bytes of the call's own: v is nil, or starts a row of a block from base on. -/
def Buf (w : World) (base : Nat) (e : TypeId) (v : Value) (xs : List Int) : Prop := w.ownsRow base e 1 v xs.length (xs.map (Value.int .u8))
theorem Buf.nil (w : World) (base : Nat) (e : TypeId) : Buf w base e (.slice none 0 0) [] := World.ownsRow_nil _ _ _ _
theorem Buf.lt {w : World} {base : Nat} {e : TypeId} {v : Value} {xs : List Int} (h : Buf w base e v xs) : ∀ k, v.ownBlock = some k → base ≤ k := fun k hk => (World.ownsRow.lt h k hk).1
theorem Buf.string {P : Program} {w : World} {base : Nat} {e : TypeId} {v : Value} {xs : List Int} (h : Buf w base e v xs) (src dst : TypeId) (hs : P.underlying src = some (.slice e)) (he : P.underlying e = some (.int .u8)) (hd : P.underlying dst = some .string) :
    (convert src dst v).run P w = .ok (.string (strOfNums xs)) w := by
  have h0 := h
  rcases h.2 with ⟨rfl, hn⟩ | ⟨g, cap, cur, rfl, _⟩
  · have : xs = [] := List.length_eq_zero_iff.1 hn
    subst this
    exact run_convert_bytes_nil w src e hs he 0 0 dst hd
  · refine run_convert_bytes_arg w src e hs he g 0 xs.length cap xs rfl (fun i hi => ?_) dst hd
    rw [Nat.zero_add, World.ownsRow.cellAt h0 i (by omega), List.getElem?_map, List.getD, List.getElem?_eq_getElem hi]
    rfl
/-- What append leaves, put back into the form of a buffer. -/
theorem Buf.app {w : World} {base : Nat} {e : TypeId} {v : Value} {xs ys : List Int} {n : Nat} (h : w.ownsRow base e 1 v n (xs.map (Value.int .u8) ++ ys.map (Value.int .u8))) : Buf w base e v (xs ++ ys) := by
  have hl := h.1
  unfold Buf
  rw [List.map_append]
  have : n = (xs ++ ys).length := by simp at hl; simp; omega
  rw [← this]
  exact h
theorem nonempty_str (s : ByteArray) (h : 0 < s.size) : s.toList.isEmpty = false := by
  rw [ByteArray.toList_eq]
  have : 0 < s.data.toList.length := by rw [Array.length_toList]; exact h
  cases hl : s.data.toList with
  | nil => rw [hl] at this; simp at this
  | cons a l => rfl
theorem nums_drop (s : ByteArray) (k : Nat) : nums (s.extract k s.size) = (nums s).drop k := by
  unfold nums
  rw [Lib.extract_to_end, List.map_drop]
theorem nums_two (t : ByteArray) (h : 2 ≤ t.size) : nums t = ((t[0]'(by omega)).toNat : Int) :: ((t[1]'(by omega)).toNat : Int) :: nums (t.extract 2 t.size) := by
  rw [nums_drop, nums_get t 0 (by omega), nums_get t 1 (by omega)]
  have hl : 2 ≤ (nums t).length := by rw [nums_length]; exact h
  match hn : nums t, hl with
  | a :: b :: r, _ => rfl
theorem byte_bd (b : UInt8) : 0 ≤ (b.toNat : Int) ∧ (b.toNat : Int) < 256 := by have := b.toNat_lt; omega
theorem nums_empty (s : ByteArray) (h : s.size = 0) : nums s = [] := List.length_eq_zero_iff.1 (by rw [nums_length, h])
end Go.Proofs.YtohlgcdailconaaGreatDoor
