/- The plain laws of stage 1: how the functions of two numbers go together. -/
import Derived.Test.YtijdeljkppghbaaWordSpec
namespace Go.Proofs.Ytijdeljkppghbaa.Word
open Go.RowKit
set_option linter.unusedVariables false
theorem xor_and (a b : Nat) : (a ^^^ b) + 2 * (a &&& b) = a + b := by
  induction a using Nat.strongRecOn generalizing b with
  | _ a ih =>
    by_cases h : a = 0
    · subst h; simp
    · have := ih (a / 2) (by omega) (b / 2)
      have e1 := Nat.xor_div_two (a := a) (b := b)
      have e2 := Nat.and_div_two (a := a) (b := b)
      have m1 := Nat.xor_mod_two_eq_one (a := a) (b := b)
      have m2 := Nat.and_mod_two_eq_one (a := a) (b := b)
      rw [← e1, ← e2] at this
      by_cases ha : a % 2 = 1 <;> by_cases hb : b % 2 = 1 <;> simp only [ha, hb, true_and, false_and, iff_true, iff_false, not_true, not_false_iff, iff_self] at m1 m2 <;> omega
theorem or_and (a b : Nat) : (a ||| b) = (a ^^^ b) + (a &&& b) := by
  induction a using Nat.strongRecOn generalizing b with
  | _ a ih =>
    by_cases h : a = 0
    · subst h; simp
    · have := ih (a / 2) (by omega) (b / 2)
      have e1 := Nat.xor_div_two (a := a) (b := b)
      have e2 := Nat.and_div_two (a := a) (b := b)
      have e3 := Nat.or_div_two (a := a) (b := b)
      have m1 := Nat.xor_mod_two_eq_one (a := a) (b := b)
      have m2 := Nat.and_mod_two_eq_one (a := a) (b := b)
      have m3 := Nat.or_mod_two_eq_one (a := a) (b := b)
      rw [← e1, ← e2, ← e3] at this
      by_cases ha : a % 2 = 1 <;> by_cases hb : b % 2 = 1 <;> simp only [ha, hb, true_and, false_and, or_true, or_self, or_false, iff_true, iff_false, not_true, not_false_iff, iff_self] at m1 m2 m3 <;> omega
theorem neg_div (x : Int) (d : Int) (hd : 0 < d) : (-(x + 1)) / d = -(x / d) - 1 := by
  have h1 := Int.mul_ediv_add_emod x d
  have h2 := Int.emod_nonneg x (by omega : d ≠ 0)
  have h3 := Int.emod_lt_of_pos x hd
  have e : -(x + 1) = (d - 1 - x % d) + d * (-(x / d) - 1) := by rw [Int.mul_sub, Int.mul_neg]; omega
  rw [e, Int.add_mul_ediv_left _ _ (by omega), Int.ediv_eq_zero_of_lt (by omega) (by omega)]
  omega
theorem pow_bd (k : Int) (h0 : 0 ≤ k) (h1 : k ≤ 31) : (0 : Int) < 2 ^ (k % 32).toNat ∧ (2 : Int) ^ (k % 32).toNat ≤ 2147483648 := by
  refine ⟨Int.pow_pos (by omega), ?_⟩
  have e : (2147483648 : Int) = 2 ^ 31 := by decide
  rw [e]
  exact_mod_cast Nat.pow_le_pow_right (by omega : 2 > 0) (by omega : (k % 32).toNat ≤ 31)
section
variable (a b : Int) (h0 : 0 ≤ a) (h1 : a ≤ 4294967295) (h2 : 0 ≤ b) (h3 : b ≤ 4294967295)
include h0 h1
theorem l_sub : opv 2 (opv 1 a b) b = a := by show ((a + b) % 4294967296 - b) % 4294967296 = a; omega
include h2 h3
theorem l_div : opv 1 (opv 3 (opv 4 a b) b) (opv 5 a b) = a := by
  show (divu a b * b % 4294967296 + remu a b) % 4294967296 = a
  unfold divu remu
  by_cases hb : b = 0
  · subst hb; simp; omega
  · rw [if_neg hb, if_neg hb]
    have e := Int.mul_ediv_add_emod a b
    have e2 := Int.emod_nonneg a hb
    have e3 := Int.emod_lt_of_pos a (by omega : 0 < b)
    have e4 : 0 ≤ a / b * b := Int.mul_nonneg (Int.ediv_nonneg h0 h2) h2
    rw [Int.mul_comm] at e
    omega
omit h0 h1 in
theorem l_rem (hb : 0 < b) : opv 5 a b < b := by
  show remu a b < b
  unfold remu
  rw [if_neg (by omega)]
  exact Int.emod_lt_of_pos a hb
theorem l_xor : opv 1 (opv 8 a b) (opv 3 2 (opv 6 a b)) = opv 1 a b := by
  show (bits .xor .u32 a b + 2 * bits .and .u32 a b % 4294967296) % 4294967296 = (a + b) % 4294967296
  obtain ⟨x, rfl⟩ := Int.eq_ofNat_of_zero_le h0
  obtain ⟨y, rfl⟩ := Int.eq_ofNat_of_zero_le h2
  rw [u32_xor_nat x y (by omega) (by omega), u32_and_nat x y (by omega) (by omega)]
  have := xor_and x y
  omega
theorem l_or : opv 2 (opv 7 a b) (opv 6 a b) = opv 8 a b := by
  show (bits .or .u32 a b - bits .and .u32 a b) % 4294967296 = bits .xor .u32 a b
  obtain ⟨x, rfl⟩ := Int.eq_ofNat_of_zero_le h0
  obtain ⟨y, rfl⟩ := Int.eq_ofNat_of_zero_le h2
  rw [u32_xor_nat x y (by omega) (by omega), u32_and_nat x y (by omega) (by omega), u32_or_nat x y (by omega) (by omega)]
  have := or_and x y
  have : x ^^^ y < 2 ^ 32 := Nat.xor_lt_two_pow (by omega) (by omega)
  omega
end
section
variable (a k : Int) (h0 : 0 ≤ a) (h1 : a ≤ 4294967295) (k0 : 0 ≤ k) (k1 : k ≤ 31)
include k0 k1
theorem l_one : opv 9 1 k = 2 ^ (k % 32).toNat := by
  show 1 * 2 ^ (k % 32).toNat % 4294967296 = _
  have := pow_bd k k0 k1
  omega
theorem l_shl : opv 9 a k = opv 3 a (opv 9 1 k) := by rw [l_one k k0 k1]; rfl
theorem l_shr : opv 10 a k = opv 4 a (opv 9 1 k) := by
  rw [l_one k k0 k1]
  have := pow_bd k k0 k1
  show _ = divu a (2 ^ (k % 32).toNat)
  rw [divu_ne _ _ (by omega)]
  rfl
omit k0 k1 in
theorem l_round : opv 9 a k = opv 9 a (k + 32) := by
  show a * 2 ^ (k % 32).toNat % 4294967296 = a * 2 ^ ((k + 32) % 32).toNat % 4294967296
  rw [show (k + 32) % 32 = k % 32 by omega]
include h0 h1
theorem l_sar0 (h : a < 2147483648) : opv 11 a k = opv 10 a k := by
  show wrap32 a / 2 ^ (k % 32).toNat % 4294967296 = a / 2 ^ (k % 32).toNat
  rw [show wrap32 a = a by unfold wrap32; omega]
  have := Int.ediv_nonneg h0 (Int.le_of_lt (pow_bd k k0 k1).1)
  have := Int.ediv_le_self (2 ^ (k % 32).toNat) h0
  omega
theorem l_sar1 (h : 2147483648 ≤ a) : opv 11 a k = opv 2 4294967295 (opv 10 (opv 2 4294967295 a) k) := by
  show wrap32 a / 2 ^ (k % 32).toNat % 4294967296 = (4294967295 - (4294967295 - a) % 4294967296 / 2 ^ (k % 32).toNat) % 4294967296
  have hp := pow_bd k k0 k1
  rw [show wrap32 a = -((4294967295 - a) + 1) by unfold wrap32; omega, show (4294967295 - a) % 4294967296 = 4294967295 - a by omega, neg_div _ _ hp.1]
  have := Int.ediv_nonneg (show 0 ≤ 4294967295 - a by omega) (Int.le_of_lt hp.1)
  have := Int.ediv_le_self (2 ^ (k % 32).toNat) (show 0 ≤ 4294967295 - a by omega)
  omega
end
theorem l_high0 (a : Int) (h : a < 2147483648) : (opv 13 a 2147483648 == 0) = false := by show (one (decide (a < 2147483648)) == 0) = false; rw [decide_eq_true h]; rfl
theorem l_high1 (a : Int) (h : 2147483648 ≤ a) : (opv 13 a 2147483648 == 0) = true := by show (one (decide (a < 2147483648)) == 0) = true; rw [decide_eq_false (by omega)]; rfl
section
variable (a b : Int) (h0 : 0 ≤ a) (h1 : a ≤ 4294967295) (h2 : 0 ≤ b) (h3 : b ≤ 4294967295)
include h0 h1 h2 h3
theorem l_same0 (ha : a < 2147483648) (hb : b < 2147483648) : opv 12 a b = opv 13 a b := by
  show one (decide (wrap32 a < wrap32 b)) = one (decide (a < b))
  rw [show wrap32 a = a by unfold wrap32; omega, show wrap32 b = b by unfold wrap32; omega]
theorem l_same1 (ha : 2147483648 ≤ a) (hb : 2147483648 ≤ b) : opv 12 a b = opv 13 a b := by
  show one (decide (wrap32 a < wrap32 b)) = one (decide (a < b))
  rw [show wrap32 a = a - 4294967296 by unfold wrap32; omega, show wrap32 b = b - 4294967296 by unfold wrap32; omega]
  congr 1
  rw [decide_eq_decide]; omega
theorem l_unlike0 (ha : a < 2147483648) (hb : 2147483648 ≤ b) : (opv 12 a b == opv 13 a b) = false := by
  show (one (decide (wrap32 a < wrap32 b)) == one (decide (a < b))) = false
  rw [show wrap32 a = a by unfold wrap32; omega, show wrap32 b = b - 4294967296 by unfold wrap32; omega, decide_eq_false (by omega), decide_eq_true (by omega)]; rfl
theorem l_unlike1 (ha : 2147483648 ≤ a) (hb : b < 2147483648) : (opv 12 a b == opv 13 a b) = false := by
  show (one (decide (wrap32 a < wrap32 b)) == one (decide (a < b))) = false
  rw [show wrap32 a = a - 4294967296 by unfold wrap32; omega, show wrap32 b = b by unfold wrap32; omega, decide_eq_true (by omega), decide_eq_false (by omega)]; rfl
omit h0 h1 h2 h3 in
theorem l_three : opv 13 a b + opv 13 b a + opv 14 a b = 1 := by
  show one (decide (a < b)) + one (decide (b < a)) + one (a == b) = 1
  rcases Int.lt_trichotomy a b with h | h | h
  · rw [decide_eq_true h, decide_eq_false (by omega), beq_eq_false_iff_ne.2 (by omega)]; rfl
  · subst h; rw [decide_eq_false (by omega), beq_self_eq_true]; rfl
  · rw [decide_eq_false (by omega), decide_eq_true h, beq_eq_false_iff_ne.2 (by omega)]; rfl
theorem l_threes : opv 12 a b + opv 12 b a + opv 14 a b = 1 := by
  show one (decide (wrap32 a < wrap32 b)) + one (decide (wrap32 b < wrap32 a)) + one (a == b) = 1
  have hw : ∀ x : Int, wrap32 x = (x + 2147483648) % 4294967296 - 2147483648 := by intro x; unfold wrap32; rfl
  rcases Int.lt_trichotomy (wrap32 a) (wrap32 b) with h | h | h
  · rw [decide_eq_true h, decide_eq_false (by omega), beq_eq_false_iff_ne.2 (by intro e; subst e; omega)]; rfl
  · have : a = b := by rw [hw, hw] at h; omega
    subst this; rw [decide_eq_false (by omega), beq_self_eq_true]; rfl
  · rw [decide_eq_false (by omega), decide_eq_true h, beq_eq_false_iff_ne.2 (by intro e; subst e; omega)]; rfl
end
end Go.Proofs.Ytijdeljkppghbaa.Word
