/- The walks of aediculeref01's bits, shift, one, signed. -/
import Derived.Test.YtldmglodjafklaaGreatProg
import Derived.Test.YtldmglodjafklaaGreatWordSpec
import Derived.LoopTactic
import Derived.Lib.Hide
import Derived.Outline
namespace Go.Proofs.YtldmglodjafklaaGreat.WordRef
open Go.RowKit Word
set_option linter.unusedVariables false
def bitsInv (a b low high : Int) (k : Nat) (x y o p : Int) : Prop := x = a / 2 ^ k ∧ y = b / 2 ^ k ∧ p = 2 ^ k % 4294967296 ∧ o = bitsAcc a b low high k % 4294967296
theorem div_pow_succ (a : Int) (k : Nat) : a / 2 ^ k / 2 = a / 2 ^ (k + 1) := by
  rw [Int.ediv_ediv_of_nonneg (by exact Int.le_of_lt (Int.pow_pos (by omega))), Int.pow_succ]
theorem pow_mod_succ (k : Nat) : 2 * (2 ^ k % 4294967296) % 4294967296 = (2 : Int) ^ (k + 1) % 4294967296 := by
  rw [Int.pow_succ]; generalize (2 : Int) ^ k = t; omega
theorem bitsAcc_succ (a b low high : Int) (k : Nat) : bitsAcc a b low high (k + 1) = bitsAcc a b low high k + (if low ≤ a / 2 ^ k % 2 + b / 2 ^ k % 2 ∧ a / 2 ^ k % 2 + b / 2 ^ k % 2 ≤ high then 2 ^ k else 0) := rfl
theorem bits_yes (a b low high : Int) (k : Nat) (x y o p : Int) (h : bitsInv a b low high k x y o p) (c1 : low ≤ x % 2 + y % 2) (c2 : x % 2 + y % 2 ≤ high) :
    bitsInv a b low high (k + 1) (x / 2) (y / 2) ((o + p) % 4294967296) (2 * p % 4294967296) := by
  obtain ⟨rfl, rfl, rfl, rfl⟩ := h
  refine ⟨div_pow_succ _ _, div_pow_succ _ _, pow_mod_succ _, ?_⟩
  rw [bitsAcc_succ, if_pos ⟨c1, c2⟩]
  omega
theorem bits_no (a b low high : Int) (k : Nat) (x y o p : Int) (h : bitsInv a b low high k x y o p) (c : ¬ (low ≤ x % 2 + y % 2 ∧ x % 2 + y % 2 ≤ high)) :
    bitsInv a b low high (k + 1) (x / 2) (y / 2) o (2 * p % 4294967296) := by
  obtain ⟨rfl, rfl, rfl, rfl⟩ := h
  refine ⟨div_pow_succ _ _, div_pow_succ _ _, pow_mod_succ _, ?_⟩
  rw [bitsAcc_succ, if_neg c]
  omega
def bitsRel (a b low high : Int) (sa sb so sp si : Value) : Prop :=
  ∃ (k : Nat) (x y o p : Int), k ≤ 32 ∧ si = .int .i64 k ∧ sa = .int .u32 x ∧ sb = .int .u32 y ∧ so = .int .u32 o ∧ sp = .int .u32 p ∧ 0 ≤ x ∧ x ≤ 4294967295 ∧ 0 ≤ y ∧ y ≤ 4294967295 ∧ 0 ≤ o ∧ o ≤ 4294967295 ∧ 0 ≤ p ∧ p ≤ 4294967295 ∧ bitsInv a b low high k x y o p
theorem bits (a b low high : Int) (h0 : 0 ≤ a) (h1 : a ≤ 4294967295) (h2 : 0 ≤ b) (h3 : b ≤ 4294967295) (l0 : 0 ≤ low) (l1 : low ≤ 2) (l2 : 0 ≤ high) (l3 : high ≤ 2) (w : World) :
    Calls Tryz.prog 129 #[.int .u32 a, .int .u32 b, .int .u32 low, .int .u32 high] w fun e w' => e = .returned (.int .u32 (bitsAcc a b low high 32 % 4294967296)) ∧ w = w' := by
  go_enter Tryz.func129, Tryz.ntmps129
  go_wp2
  go_loop [0, 1, 9, 10, 11] (bitsRel a b low high) (fun _ _ _ _ i => 32 - (intOf i).toNat)
  case atStart => exact ⟨0, a, b, 0, 1, by omega, rfl, rfl, rfl, rfl, rfl, h0, h1, h2, h3, by omega, by omega, by omega, by omega, by simp [bitsInv, bitsAcc]⟩
  case round =>
    obtain ⟨k, x, y, o, p, hk, rfl, rfl, rfl, rfl, rfl, x0, x1, y0, y1, o0, o1, p0, p1, hinv⟩ := hrel
    by_cases hk2 : k < 32
    · by_cases c1 : low ≤ x % 2 + y % 2
      · by_cases c2 : x % 2 + y % 2 ≤ high
        · have Hn := Lib.hid (bits_yes a b low high k x y o p hinv c1 c2)
          have Hinv := Lib.hid hinv
          clear hinv
          go_wp2
          go_round
          case rel => exact ⟨k + 1, _, _, _, _, by omega, by go_num, rfl, rfl, rfl, rfl, by omega, by omega, by omega, by omega, by omega, by omega, by omega, by omega, Hn.out⟩
          case measure => simp [intOf]; omega
        · have Hn := Lib.hid (bits_no a b low high k x y o p hinv (fun h => c2 h.2))
          have Hinv := Lib.hid hinv
          clear hinv
          go_wp2
          go_round
          case rel => exact ⟨k + 1, _, _, _, _, by omega, by go_num, rfl, rfl, rfl, rfl, by omega, by omega, by omega, by omega, by omega, by omega, by omega, by omega, Hn.out⟩
          case measure => simp [intOf]; omega
      · have Hn := Lib.hid (bits_no a b low high k x y o p hinv (fun h => c1 h.1))
        have Hinv := Lib.hid hinv
        clear hinv
        go_wp2
        go_round
        case rel => exact ⟨k + 1, _, _, _, _, by omega, by go_num, rfl, rfl, rfl, rfl, by omega, by omega, by omega, by omega, by omega, by omega, by omega, by omega, Hn.out⟩
        case measure => simp [intOf]; omega
    · obtain rfl : k = 32 := by omega
      have Hinv := Lib.hid hinv
      clear hinv
      go_wp2
      go_ret
      exact ⟨ret_int Hinv.out.2.2.2, rfl⟩
end Go.Proofs.YtldmglodjafklaaGreat.WordRef
