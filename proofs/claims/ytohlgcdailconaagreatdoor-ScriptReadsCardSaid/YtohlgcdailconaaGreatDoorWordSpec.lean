/- What the functions of layer 1 come to, in plain numbers. -/
import Derived.Test.YtohlgcdailconaaGreatDoorBase
namespace Go.Proofs.YtohlgcdailconaaGreatDoor.Word
open Go.RowKit
def one (c : Bool) : Int := if c then 1 else 0
def divu (a b : Int) : Int := if b = 0 then 4294967295 else a / b
def remu (a b : Int) : Int := if b = 0 then a else a % b
theorem divu_ne (a b : Int) (h : ¬ b = 0) : divu a b = a / b := by unfold divu; rw [if_neg h]
theorem remu_ne (a b : Int) (h : ¬ b = 0) : remu a b = a % b := by unfold remu; rw [if_neg h]
def opv (fn a b : Int) : Int :=
  match fn with
  | 1 => (a + b) % 4294967296
  | 2 => (a - b) % 4294967296
  | 3 => a * b % 4294967296
  | 4 => divu a b
  | 5 => remu a b
  | 6 => bits .and .u32 a b
  | 7 => bits .or .u32 a b
  | 8 => bits .xor .u32 a b
  | 9 => a * 2 ^ (b % 32).toNat % 4294967296
  | 10 => a / 2 ^ (b % 32).toNat
  | 11 => wrap32 a / 2 ^ (b % 32).toNat % 4294967296
  | 12 => one (decide (wrap32 a < wrap32 b))
  | 13 => one (decide (a < b))
  | 14 => one (a == b)
  | _ => 0
def ope (fn : Int) : Int := if 1 ≤ fn ∧ fn ≤ 14 then 0 else 2
theorem ope_high (fn : Int) (h : 15 ≤ fn) : ope fn = 2 := by unfold ope; rw [if_neg (by omega)]
theorem opv_high (fn a b : Int) (h : 15 ≤ fn) : opv fn a b = 0 := by
  unfold opv
  split <;> first | omega | rfl
/-- One round of the reference's loop over bits: is bit k there? -/
def bitsAcc (a b low high : Int) : Nat → Int
  | 0 => 0
  | k + 1 => bitsAcc a b low high k + (if low ≤ a / 2 ^ k % 2 + b / 2 ^ k % 2 ∧ a / 2 ^ k % 2 + b / 2 ^ k % 2 ≤ high then 2 ^ k else 0)
theorem nat_bits (x k : Nat) : (x / 2 ^ k % 2 = 1) = (x.testBit k = true) := by
  rw [Nat.testBit_eq_decide_div_mod_eq]; simp
theorem acc_gen (a b x : Nat) (low high : Int) (hx : ∀ k, (low ≤ ((a / 2 ^ k % 2 : Nat) : Int) + ((b / 2 ^ k % 2 : Nat) : Int) ∧ ((a / 2 ^ k % 2 : Nat) : Int) + ((b / 2 ^ k % 2 : Nat) : Int) ≤ high) ↔ x / 2 ^ k % 2 = 1) (k : Nat) :
    bitsAcc a b low high k = ((x % 2 ^ k : Nat) : Int) := by
  induction k with
  | zero => simp [bitsAcc, Nat.mod_one]
  | succ k ih =>
    have e : bitsAcc a b low high (k + 1) = bitsAcc a b low high k + (if low ≤ (a : Int) / 2 ^ k % 2 + (b : Int) / 2 ^ k % 2 ∧ (a : Int) / 2 ^ k % 2 + (b : Int) / 2 ^ k % 2 ≤ high then 2 ^ k else 0) := rfl
    have ea : (a : Int) / 2 ^ k % 2 = ((a / 2 ^ k % 2 : Nat) : Int) := by simp
    have eb : (b : Int) / 2 ^ k % 2 = ((b / 2 ^ k % 2 : Nat) : Int) := by simp
    have h2 : x / 2 ^ k % 2 < 2 := Nat.mod_lt _ (by omega)
    rw [e, ea, eb, ih, Nat.mod_pow_succ]
    by_cases h : x / 2 ^ k % 2 = 1
    · rw [if_pos ((hx k).2 h), h]; simp
    · rw [if_neg (fun g => h ((hx k).1 g))]
      have : x / 2 ^ k % 2 = 0 := by omega
      rw [this]; simp
theorem two_cases (a k : Nat) : a / 2 ^ k % 2 = 0 ∨ a / 2 ^ k % 2 = 1 := by have : a / 2 ^ k % 2 < 2 := Nat.mod_lt _ (by omega); omega
theorem acc_op (f : Bool → Bool → Bool) (x a b : Nat) (low high : Int) (hx : ∀ k, x.testBit k = f (a.testBit k) (b.testBit k))
    (hf : ∀ p q : Bool, (low ≤ one p + one q ∧ one p + one q ≤ high) ↔ f p q = true) (hlt : x < 4294967296) : bitsAcc a b low high 32 % 4294967296 = x := by
  rw [acc_gen a b x low high ?_ 32]
  · rw [Nat.mod_eq_of_lt (by omega)]; omega
  · intro k
    rw [nat_bits, hx k, ← hf]
    have one_bit : ∀ y : Nat, ((y / 2 ^ k % 2 : Nat) : Int) = one (y.testBit k) := by
      intro y
      rw [Nat.testBit_eq_decide_div_mod_eq]
      rcases two_cases y k with h | h <;> simp [h, one]
    rw [one_bit a, one_bit b]
theorem acc_and (a b : Int) (h0 : 0 ≤ a) (h1 : a ≤ 4294967295) (h2 : 0 ≤ b) (h3 : b ≤ 4294967295) : bitsAcc a b 2 2 32 % 4294967296 = bits .and .u32 a b := by
  obtain ⟨a, rfl⟩ := Int.eq_ofNat_of_zero_le h0
  obtain ⟨b, rfl⟩ := Int.eq_ofNat_of_zero_le h2
  rw [u32_and_nat a b (by omega) (by omega)]
  exact acc_op (· && ·) _ a b 2 2 (fun k => Nat.testBit_and ..) (by intro p q; cases p <;> cases q <;> simp [one]) (Nat.lt_of_le_of_lt Nat.and_le_left (by omega))
theorem acc_or (a b : Int) (h0 : 0 ≤ a) (h1 : a ≤ 4294967295) (h2 : 0 ≤ b) (h3 : b ≤ 4294967295) : bitsAcc a b 1 2 32 % 4294967296 = bits .or .u32 a b := by
  obtain ⟨a, rfl⟩ := Int.eq_ofNat_of_zero_le h0
  obtain ⟨b, rfl⟩ := Int.eq_ofNat_of_zero_le h2
  rw [u32_or_nat a b (by omega) (by omega)]
  exact acc_op (· || ·) _ a b 1 2 (fun k => Nat.testBit_or ..) (by intro p q; cases p <;> cases q <;> simp [one]) (Nat.or_lt_two_pow (n := 32) (by omega) (by omega))
theorem acc_xor (a b : Int) (h0 : 0 ≤ a) (h1 : a ≤ 4294967295) (h2 : 0 ≤ b) (h3 : b ≤ 4294967295) : bitsAcc a b 1 1 32 % 4294967296 = bits .xor .u32 a b := by
  obtain ⟨a, rfl⟩ := Int.eq_ofNat_of_zero_le h0
  obtain ⟨b, rfl⟩ := Int.eq_ofNat_of_zero_le h2
  rw [u32_xor_nat a b (by omega) (by omega)]
  exact acc_op (fun p q => p != q) _ a b 1 1 (fun k => Nat.testBit_xor ..) (by intro p q; cases p <;> cases q <;> simp [one]) (Nat.xor_lt_two_pow (n := 32) (by omega) (by omega))
end Go.Proofs.YtohlgcdailconaaGreatDoor.Word
