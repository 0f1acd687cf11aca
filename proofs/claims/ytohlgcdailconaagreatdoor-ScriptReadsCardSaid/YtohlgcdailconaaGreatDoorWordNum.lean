/- Numbers of bytes, the lowest first. -/
import Derived.Test.YtohlgcdailconaaGreatDoorBase
namespace Go.Proofs.YtohlgcdailconaaGreatDoor.Word
open Go.RowKit
def getV : List Int → Int
  | [] => 0
  | x :: xs => x + 256 * getV xs
theorem getV_snoc (l : List Int) (y : Int) : getV (l ++ [y]) = getV l + y * 256 ^ l.length := by
  induction l with
  | nil => simp [getV]
  | cons x xs ih =>
    simp only [List.cons_append, getV, ih, List.length_cons, Int.pow_succ]
    rw [Int.mul_add, Int.add_assoc, Int.mul_left_comm, Int.mul_comm 256 (256 ^ xs.length)]
theorem getV_bd (l : List Int) (h : ∀ x, x ∈ l → 0 ≤ x ∧ x < 256) : 0 ≤ getV l ∧ getV l < 256 ^ l.length := by
  induction l with
  | nil => simp [getV]
  | cons x xs ih =>
    have h1 := h x (by simp)
    have h2 := ih fun y hy => h y (by simp [hy])
    simp only [getV, List.length_cons, Int.pow_succ]
    omega
theorem or_join (k : Nat) (a y : Int) (hk : k < 4) (a0 : 0 ≤ a) (a1 : a < 256 ^ k) (y0 : 0 ≤ y) (y1 : y < 256) :
    bits .or .u32 a (y % 4294967296 * 2 ^ (8 * k) % 4294967296) = a + y * 256 ^ k := by
  have e : y % 4294967296 * 2 ^ (8 * k) % 4294967296 = y * 2 ^ (8 * k) := by
    have : k = 0 ∨ k = 1 ∨ k = 2 ∨ k = 3 := by omega
    rcases this with rfl | rfl | rfl | rfl <;> simp <;> omega
  have e2 : (256 : Int) ^ k = 2 ^ (8 * k) := by rw [Int.pow_mul]; rfl
  rw [e, e2]
  rw [e2] at a1
  obtain ⟨a, rfl⟩ := Int.eq_ofNat_of_zero_le a0
  obtain ⟨y, rfl⟩ := Int.eq_ofNat_of_zero_le y0
  have hp : ((2 : Int) ^ (8 * k)) = ((2 ^ (8 * k) : Nat) : Int) := by simp
  rw [hp] at a1 ⊢
  have a1' : a < 2 ^ (8 * k) := by exact_mod_cast a1
  rw [← Int.natCast_mul, u32_or_nat a (y * 2 ^ (8 * k))]
  · have hj := nat_join (8 * k) (y * 2 ^ (8 * k)) a (Nat.mul_mod_left _ _) a1'
    rw [Nat.or_comm, hj, ← Int.natCast_add, Nat.add_comm]
  · have : k = 0 ∨ k = 1 ∨ k = 2 ∨ k = 3 := by omega
    rcases this with rfl | rfl | rfl | rfl <;> simp at a1' <;> omega
  · have : k = 0 ∨ k = 1 ∨ k = 2 ∨ k = 3 := by omega
    rcases this with rfl | rfl | rfl | rfl <;> simp <;> omega
theorem take_succ_nums (s : ByteArray) (k : Nat) (hk : k < s.size) : (nums s).take (k + 1) = (nums s).take k ++ [((s[k]'hk).toNat : Int)] := by
  have hl : k < (nums s).length := by rw [nums_length]; exact hk
  rw [List.take_succ_eq_append_getElem hl]
  congr 2
  have := nums_get s k hk
  rw [this, List.getD, List.getElem?_eq_getElem hl]
  rfl
theorem get_next (s : ByteArray) (k : Nat) (x : Int) (hk : k < s.size) (h4 : s.size ≤ 4) (hx : x = getV ((nums s).take k)) :
    bits .or .u32 x (((s[k]'hk).toNat : Int) % 4294967296 * 2 ^ (8 * k) % 4294967296) = getV ((nums s).take (k + 1)) := by
  have hb := getV_bd ((nums s).take k) fun y hy => nums_bd s y (List.mem_of_mem_take hy)
  have hl : ((nums s).take k).length = k := by rw [List.length_take, nums_length]; omega
  rw [hl] at hb
  rw [take_succ_nums s k hk, getV_snoc, hl, ← hx]
  rw [← hx] at hb
  have hy := (s[k]'hk).toNat_lt
  exact or_join k x _ (by omega) hb.1 hb.2 (by omega) (by omega)
theorem getV_take_bd (s : ByteArray) (k : Nat) (h4 : s.size ≤ 4) : 0 ≤ getV ((nums s).take k) ∧ getV ((nums s).take k) ≤ 4294967295 := by
  have hb := getV_bd ((nums s).take k) fun y hy => nums_bd s y (List.mem_of_mem_take hy)
  have hl : ((nums s).take k).length ≤ 4 := by rw [List.length_take, nums_length]; omega
  generalize ((nums s).take k).length = n at hb hl
  have : n = 0 ∨ n = 1 ∨ n = 2 ∨ n = 3 ∨ n = 4 := by omega
  rcases this with rfl | rfl | rfl | rfl | rfl <;> simp at hb <;> omega
end Go.Proofs.YtohlgcdailconaaGreatDoor.Word
