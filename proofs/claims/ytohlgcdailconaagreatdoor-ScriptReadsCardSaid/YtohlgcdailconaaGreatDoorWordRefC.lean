/- The walks of aediculeref01's functions of bytes: Bytes, turned, Put, PutHigh, Get, GetHigh. -/
import Derived.Test.YtohlgcdailconaaGreatDoorWordUnhex
import Derived.Test.YtohlgcdailconaaGreatDoorWordPut
import Derived.Test.YtohlgcdailconaaGreatDoorWordGet
namespace Go.Proofs.YtohlgcdailconaaGreatDoor.WordRef
open Go.RowKit Word
set_option linter.unusedVariables false
theorem putL_next (v : Int) (k : Nat) (h0 : 0 ≤ v) (h1 : v ≤ 4294967295) (hk : k < 4) : (putL v).take (k + 1) = (putL v).take k ++ [v / 256 ^ k % 256] := by
  have : k = 0 ∨ k = 1 ∨ k = 2 ∨ k = 3 := by omega
  rcases this with rfl | rfl | rfl | rfl
  · simp [putL]
  · simp [putL]
  · simp [putL]
  · simp [putL]; omega
theorem div256 (v : Int) (k : Nat) : v / 256 ^ k / 256 = v / 256 ^ (k + 1) := by
  rw [Int.ediv_ediv_of_nonneg (Int.le_of_lt (Int.pow_pos (by omega))), Int.pow_succ]
theorem div_bd (v : Int) (k : Nat) (h0 : 0 ≤ v) (h1 : v ≤ 4294967295) : 0 ≤ v / 256 ^ k ∧ v / 256 ^ k ≤ 4294967295 :=
  ⟨Int.ediv_nonneg h0 (Int.le_of_lt (Int.pow_pos (by omega))), Int.le_trans (Int.ediv_le_self _ h0) h1⟩
theorem putL_len (v : Int) (k : Nat) (hk : k ≤ 4) : ((putL v).take k).length = k := by rw [List.length_take]; simp [putL]; omega
def bytesRel (v : Int) (n : Nat) (W : World) (sv sb si : Value) (wr : World) : Prop :=
  ∃ (k : Nat) (x : Int), k ≤ n ∧ si = .int .i64 k ∧ sv = .int .u32 x ∧ 0 ≤ x ∧ x ≤ 4294967295 ∧ x = v / 256 ^ k ∧ Buf wr W.heap.size 5 sb ((putL v).take k) ∧ Below W.heap.size W wr
def turnedRel (s : ByteArray) (W : World) (sb si : Value) (wr : World) : Prop :=
  ∃ (k : Nat), k ≤ s.size ∧ si = .int .i64 ((s.size : Int) - 1 - k) ∧ Buf wr W.heap.size 5 sb ((nums s).reverse.take k) ∧ Below W.heap.size W wr
theorem rev_next (s : ByteArray) (k : Nat) (hk : k < s.size) : (nums s).reverse.take (k + 1) = (nums s).reverse.take k ++ [((s[s.size - 1 - k]'(by omega)).toNat : Int)] := by
  have hl : k < (nums s).reverse.length := by rw [List.length_reverse, nums_length]; exact hk
  rw [List.take_succ_eq_append_getElem hl, List.getElem_reverse]
  have e := nums_get s (s.size - 1 - k) (by omega)
  rw [e]
  simp only [nums_length, List.getD]
  rw [List.getElem?_eq_getElem (by rw [nums_length]; omega)]
  rfl
end Go.Proofs.YtohlgcdailconaaGreatDoor.WordRef
