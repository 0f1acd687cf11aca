/- WordRef: WordRef, WordRefB, WordRefGet in one text. -/
import Derived.Test.YtkbhokmnbpnlbaaGreatProg
import Derived.Test.YtkbhokmnbpnlbaaGreatWordSpec
import Derived.LoopTactic
import Derived.Lib.Hide
import Derived.Outline
import Derived.Laws.BitsAllLaws
import Derived.Laws.Bits64
import Derived.Test.YtkbhokmnbpnlbaaGreatWordPut
import Derived.Test.YtkbhokmnbpnlbaaGreatWordNum
import Derived.WalkSpells
import Derived.WalkLawsBesides
/- The walks of aediculeref01's bits, shift, one, signed. -/
namespace Go.Proofs.YtkbhokmnbpnlbaaGreat.WordRef
open Go.RowKit Word
set_option linter.unusedVariables false
def bitsInv (a b low high : Int) (k : Nat) (x y o p : Int) : Prop := x = a / 2 ^ k ∧ y = b / 2 ^ k ∧ p = 2 ^ k % 4294967296 ∧ o = bitsAcc a b low high k % 4294967296
theorem div_pow_succ (a : Int) (k : Nat) : a / 2 ^ k / 2 = a / 2 ^ (k + 1) := by
  rw [Int.ediv_ediv_of_nonneg (by exact Int.le_of_lt (Int.pow_pos (by omega))), Int.pow_succ]
theorem pow_mod_succ (k : Nat) : 2 * (2 ^ k % 4294967296) % 4294967296 = (2 : Int) ^ (k + 1) % 4294967296 := by
  rw [Int.pow_succ]; generalize (2 : Int) ^ k = t; omega
theorem bitsAcc_succ (a b low high : Int) (k : Nat) : bitsAcc a b low high (k + 1) = bitsAcc a b low high k + (if low ≤ a / 2 ^ k % 2 + b / 2 ^ k % 2 ∧ a / 2 ^ k % 2 + b / 2 ^ k % 2 ≤ high then 2 ^ k else 0) := rfl
theorem bits_yes (a b low high : Int) (k : Nat) (x y o p : Int) (h : bitsInv a b low high k x y o p) (c1 : low ≤ x % 2 + y % 2) (c2 : x % 2 + y % 2 ≤ high) :
    bitsInv a b low high (k + 1) (x / 2) (y / 2) ((o + p) % 4294967296) (2 * p % 4294967296) := by
  obtain ⟨rfl, rfl, rfl, rfl⟩ := h
  refine ⟨div_pow_succ _ _, div_pow_succ _ _, pow_mod_succ _, ?_⟩
  rw [bitsAcc_succ, if_pos ⟨c1, c2⟩]
  omega
theorem bits_no (a b low high : Int) (k : Nat) (x y o p : Int) (h : bitsInv a b low high k x y o p) (c : ¬ (low ≤ x % 2 + y % 2 ∧ x % 2 + y % 2 ≤ high)) :
    bitsInv a b low high (k + 1) (x / 2) (y / 2) o (2 * p % 4294967296) := by
  obtain ⟨rfl, rfl, rfl, rfl⟩ := h
  refine ⟨div_pow_succ _ _, div_pow_succ _ _, pow_mod_succ _, ?_⟩
  rw [bitsAcc_succ, if_neg c]
  omega
def bitsRel (a b low high : Int) (sa sb so sp si : Value) : Prop :=
  ∃ (k : Nat) (x y o p : Int), k ≤ 32 ∧ si = .int .i64 k ∧ sa = .int .u32 x ∧ sb = .int .u32 y ∧ so = .int .u32 o ∧ sp = .int .u32 p ∧ 0 ≤ x ∧ x ≤ 4294967295 ∧ 0 ≤ y ∧ y ≤ 4294967295 ∧ 0 ≤ o ∧ o ≤ 4294967295 ∧ 0 ≤ p ∧ p ≤ 4294967295 ∧ bitsInv a b low high k x y o p
theorem bits (a b low high : Int) (h0 : 0 ≤ a) (h1 : a ≤ 4294967295) (h2 : 0 ≤ b) (h3 : b ≤ 4294967295) (l0 : 0 ≤ low) (l1 : low ≤ 2) (l2 : 0 ≤ high) (l3 : high ≤ 2) (w : World) :
    Calls Tryz.prog 280 #[.int .u32 a, .int .u32 b, .int .u32 low, .int .u32 high] w fun e w' => e = .returned (.int .u32 (bitsAcc a b low high 32 % 4294967296)) ∧ w = w' := by
  go_enter Tryz.func280, Tryz.ntmps280
  go_wp2
  go_loop [0, 1, 9, 10, 11] (bitsRel a b low high) (fun _ _ _ _ i => 32 - (intOf i).toNat)
  case atStart => exact ⟨0, a, b, 0, 1, by omega, rfl, rfl, rfl, rfl, rfl, h0, h1, h2, h3, by omega, by omega, by omega, by omega, by simp [bitsInv, bitsAcc]⟩
  case round =>
    obtain ⟨k, x, y, o, p, hk, rfl, rfl, rfl, rfl, rfl, x0, x1, y0, y1, o0, o1, p0, p1, hinv⟩ := hrel
    by_cases hk2 : k < 32
    · by_cases c1 : low ≤ x % 2 + y % 2
      · by_cases c2 : x % 2 + y % 2 ≤ high
        · have Hn := Lib.hid (bits_yes a b low high k x y o p hinv c1 c2)
          have Hinv := Lib.hid hinv
          clear hinv
          go_wp2
          go_round
          case rel => exact ⟨k + 1, _, _, _, _, by omega, by go_num, rfl, rfl, rfl, rfl, by omega, by omega, by omega, by omega, by omega, by omega, by omega, by omega, Hn.out⟩
          case measure => simp [intOf]; omega
        · have Hn := Lib.hid (bits_no a b low high k x y o p hinv (fun h => c2 h.2))
          have Hinv := Lib.hid hinv
          clear hinv
          go_wp2
          go_round
          case rel => exact ⟨k + 1, _, _, _, _, by omega, by go_num, rfl, rfl, rfl, rfl, by omega, by omega, by omega, by omega, by omega, by omega, by omega, by omega, Hn.out⟩
          case measure => simp [intOf]; omega
      · have Hn := Lib.hid (bits_no a b low high k x y o p hinv (fun h => c1 h.1))
        have Hinv := Lib.hid hinv
        clear hinv
        go_wp2
        go_round
        case rel => exact ⟨k + 1, _, _, _, _, by omega, by go_num, rfl, rfl, rfl, rfl, by omega, by omega, by omega, by omega, by omega, by omega, by omega, by omega, Hn.out⟩
        case measure => simp [intOf]; omega
    · obtain rfl : k = 32 := by omega
      have Hinv := Lib.hid hinv
      clear hinv
      go_wp2
      go_ret
      exact ⟨ret_int Hinv.out.2.2.2, rfl⟩
end Go.Proofs.YtkbhokmnbpnlbaaGreat.WordRef
/- The walks of aediculeref01's shift, one, signed and Op. -/
namespace Go.Proofs.YtkbhokmnbpnlbaaGreat.WordRef
open Go.RowKit Word
set_option linter.unusedVariables false
theorem one (c : Bool) (w : World) : Calls Tryz.prog 282 #[.bool c] w fun e w' => e = .returned (.int .u32 (Word.one c)) ∧ w = w' := by
  cases c
  all_goals
    go_enter Tryz.func282, Tryz.ntmps282
    go_wp2
    go_ret
    exact ⟨rfl, rfl⟩
theorem wrap32_low (a : Int) (h0 : 0 ≤ a) (h : a < 2147483648) : wrap32 a = a := by unfold wrap32; omega
theorem wrap32_high (a : Int) (h0 : 2147483648 ≤ a) (h : a ≤ 4294967295) : wrap32 a = a - 4294967296 := by unfold wrap32; omega
theorem signed (a : Int) (h0 : 0 ≤ a) (h1 : a ≤ 4294967295) (w : World) : Calls Tryz.prog 283 #[.int .u32 a] w fun e w' => e = .returned (.int .i64 (wrap32 a)) ∧ w = w' := by
  by_cases h : 2147483648 ≤ a
  · have e := Lib.hid (wrap32_high a h h1)
    go_enter Tryz.func283, Tryz.ntmps283
    go_wp2
    go_ret
    exact ⟨ret_int e.out.symm, rfl⟩
  · have e := Lib.hid (wrap32_low a h0 (by omega))
    go_enter Tryz.func283, Tryz.ntmps283
    go_wp2
    go_ret
    exact ⟨ret_int e.out.symm, rfl⟩
theorem shl_next (a : Int) (k : Nat) : a * 2 ^ k % 4294967296 % 2147483648 * 2 = a * 2 ^ (k + 1) % 4294967296 := by
  rw [Int.pow_succ, ← Int.mul_assoc]; generalize a * 2 ^ k = t; omega
theorem sar_bd (a : Int) (k : Nat) (h0 : 2147483648 ≤ a) (h1 : a ≤ 4294967295) : -2147483648 ≤ wrap32 a / 2 ^ k ∧ wrap32 a / 2 ^ k < 0 := by
  rw [wrap32_high a h0 h1]
  have hp : (0 : Int) < 2 ^ k := Int.pow_pos (by omega)
  refine ⟨?_, ?_⟩
  · rw [Int.le_ediv_iff_mul_le hp]
    have : (1 : Int) ≤ 2 ^ k := hp
    have : (-2147483648) * (2 : Int) ^ k ≤ -2147483648 * 1 := Int.mul_le_mul_of_nonpos_left (by omega) this
    omega
  · exact Int.ediv_neg_of_neg_of_pos (by omega) hp
theorem sar_bd0 (a : Int) (k : Nat) (h0 : 0 ≤ a) (h1 : a < 2147483648) : 0 ≤ wrap32 a / 2 ^ k ∧ wrap32 a / 2 ^ k ≤ 2147483647 := by
  rw [wrap32_low a h0 h1]
  have hp : (0 : Int) < 2 ^ k := Int.pow_pos (by omega)
  refine ⟨Int.ediv_nonneg h0 (by omega), ?_⟩
  exact Int.le_trans (Int.ediv_le_self _ h0) (by omega)
theorem sar_next0 (a : Int) (k : Nat) (h0 : 0 ≤ a) (h1 : a < 2147483648) : wrap32 a / 2 ^ k % 4294967296 / 2 = wrap32 a / 2 ^ (k + 1) % 4294967296 := by
  have := sar_bd0 a k h0 h1
  rw [← div_pow_succ]
  generalize wrap32 a / 2 ^ k = t at *
  omega
theorem sar_next1 (a : Int) (k : Nat) (h0 : 2147483648 ≤ a) (h1 : a ≤ 4294967295) : wrap32 a / 2 ^ k % 4294967296 / 2 + 2147483648 = wrap32 a / 2 ^ (k + 1) % 4294967296 := by
  have := sar_bd a k h0 h1
  rw [← div_pow_succ]
  generalize wrap32 a / 2 ^ k = t at *
  omega
def shv (fn a : Int) (k : Nat) : Int :=
  match fn with
  | 9 => a * 2 ^ k % 4294967296
  | 10 => a / 2 ^ k
  | _ => wrap32 a / 2 ^ k % 4294967296
def shRel (fn a n : Int) (sa si : Value) : Prop := ∃ (k : Nat) (x : Int), (k : Int) ≤ n ∧ si = .int .i64 k ∧ sa = .int .u32 x ∧ 0 ≤ x ∧ x ≤ 4294967295 ∧ x = shv fn a k
theorem shv9_0 (a : Int) (h0 : 0 ≤ a) (h1 : a ≤ 4294967295) : a = shv 9 a 0 := by
  show a = a * 2 ^ 0 % 4294967296
  simp only [Int.pow_zero, Int.mul_one]
  omega
theorem shv9_next (a : Int) (k : Nat) (h0 : 0 ≤ a) (h1 : a ≤ 4294967295) : shv 9 a k % 2147483648 * 2 = shv 9 a (k + 1) := shl_next a k
set_option maxRecDepth 10000 in
theorem shift9 (a n : Int) (h0 : 0 ≤ a) (h1 : a ≤ 4294967295) (n0 : 0 ≤ n) (n1 : n ≤ 31) (w : World) :
    Calls Tryz.prog 281 #[.int .u8 9, .int .u32 a, .int .i64 n] w fun e w' => e = .returned (.int .u32 (shv 9 a n.toNat)) ∧ w = w' := by
  have H0 := Lib.hid (shv9_0 a h0 h1)
  have Hn := Lib.hid (fun k => shv9_next a k h0 h1)
  go_enter Tryz.func281, Tryz.ntmps281
  go_wp2
  go_loop [1, 8] (shRel 9 a n) (fun _ i => n.toNat - (intOf i).toNat)
  case atStart => exact ⟨0, a, by omega, rfl, rfl, h0, h1, H0.out⟩
  case round =>
    obtain ⟨k, x, hk, rfl, rfl, x0, x1, hx⟩ := hrel
    have Hx := Lib.hid hx
    clear hx
    by_cases hk2 : (k : Int) < n
    · have Hnx := Lib.hid (Hx.out ▸ Hn.out k)
      go_wp2
      go_round
      case rel => exact ⟨k + 1, _, by omega, by go_num, rfl, by omega, by omega, by first | exact Hnx.out | (rw [← Hnx.out]; omega)⟩
      case measure => simp [intOf] <;> omega
    · obtain rfl : (k : Int) = n := by omega
      go_wp2
      go_ret
      exact ⟨ret_int Hx.out, rfl⟩
theorem shv10_0 (a : Int) (h0 : 0 ≤ a) (h1 : a ≤ 4294967295) : a = shv 10 a 0 := by
  show a = a / 2 ^ 0
  simp only [Int.pow_zero, Int.ediv_one]
theorem shv10_next (a : Int) (k : Nat) (h0 : 0 ≤ a) (h1 : a ≤ 4294967295) : shv 10 a k / 2 = shv 10 a (k + 1) := div_pow_succ a k
set_option maxRecDepth 10000 in
theorem shift10 (a n : Int) (h0 : 0 ≤ a) (h1 : a ≤ 4294967295) (n0 : 0 ≤ n) (n1 : n ≤ 31) (w : World) :
    Calls Tryz.prog 281 #[.int .u8 10, .int .u32 a, .int .i64 n] w fun e w' => e = .returned (.int .u32 (shv 10 a n.toNat)) ∧ w = w' := by
  have H0 := Lib.hid (shv10_0 a h0 h1)
  have Hn := Lib.hid (fun k => shv10_next a k h0 h1)
  go_enter Tryz.func281, Tryz.ntmps281
  go_wp2
  go_loop [1, 8] (shRel 10 a n) (fun _ i => n.toNat - (intOf i).toNat)
  case atStart => exact ⟨0, a, by omega, rfl, rfl, h0, h1, H0.out⟩
  case round =>
    obtain ⟨k, x, hk, rfl, rfl, x0, x1, hx⟩ := hrel
    have Hx := Lib.hid hx
    clear hx
    by_cases hk2 : (k : Int) < n
    · have Hnx := Lib.hid (Hx.out ▸ Hn.out k)
      go_wp2
      go_round
      case rel => exact ⟨k + 1, _, by omega, by go_num, rfl, by omega, by omega, by first | exact Hnx.out | (rw [← Hnx.out]; omega)⟩
      case measure => simp [intOf] <;> omega
    · obtain rfl : (k : Int) = n := by omega
      go_wp2
      go_ret
      exact ⟨ret_int Hx.out, rfl⟩
theorem shv110_0 (a : Int) (h0 : 0 ≤ a) (h1 : a ≤ 4294967295) (ht : a < 2147483648) : a = shv 11 a 0 := by
  show a = wrap32 a / 2 ^ 0 % 4294967296
  simp only [Int.pow_zero, Int.ediv_one, wrap32]
  omega
theorem shv110_next (a : Int) (k : Nat) (h0 : 0 ≤ a) (h1 : a ≤ 4294967295) (ht : a < 2147483648) : shv 11 a k / 2 = shv 11 a (k + 1) := sar_next0 a k h0 ht
set_option maxRecDepth 10000 in
theorem shift110 (a n : Int) (h0 : 0 ≤ a) (h1 : a ≤ 4294967295) (n0 : 0 ≤ n) (n1 : n ≤ 31) (ht : a < 2147483648) (w : World) :
    Calls Tryz.prog 281 #[.int .u8 11, .int .u32 a, .int .i64 n] w fun e w' => e = .returned (.int .u32 (shv 11 a n.toNat)) ∧ w = w' := by
  have H0 := Lib.hid (shv110_0 a h0 h1 ht)
  have Hn := Lib.hid (fun k => shv110_next a k h0 h1 ht)
  go_enter Tryz.func281, Tryz.ntmps281
  go_wp2
  go_loop [1, 8] (shRel 11 a n) (fun _ i => n.toNat - (intOf i).toNat)
  case atStart => exact ⟨0, a, by omega, rfl, rfl, h0, h1, H0.out⟩
  case round =>
    obtain ⟨k, x, hk, rfl, rfl, x0, x1, hx⟩ := hrel
    have Hx := Lib.hid hx
    clear hx
    by_cases hk2 : (k : Int) < n
    · have Hnx := Lib.hid (Hx.out ▸ Hn.out k)
      go_wp2
      go_round
      case rel => exact ⟨k + 1, _, by omega, by go_num, rfl, by omega, by omega, by first | exact Hnx.out | (rw [← Hnx.out]; omega)⟩
      case measure => simp [intOf] <;> omega
    · obtain rfl : (k : Int) = n := by omega
      go_wp2
      go_ret
      exact ⟨ret_int Hx.out, rfl⟩
theorem shv111_0 (a : Int) (h0 : 0 ≤ a) (h1 : a ≤ 4294967295) (ht : 2147483648 ≤ a) : a = shv 11 a 0 := by
  show a = wrap32 a / 2 ^ 0 % 4294967296
  simp only [Int.pow_zero, Int.ediv_one, wrap32]
  omega
theorem shv111_next (a : Int) (k : Nat) (h0 : 0 ≤ a) (h1 : a ≤ 4294967295) (ht : 2147483648 ≤ a) : shv 11 a k / 2 + 2147483648 = shv 11 a (k + 1) := sar_next1 a k ht h1
set_option maxRecDepth 10000 in
theorem shift111 (a n : Int) (h0 : 0 ≤ a) (h1 : a ≤ 4294967295) (n0 : 0 ≤ n) (n1 : n ≤ 31) (ht : 2147483648 ≤ a) (w : World) :
    Calls Tryz.prog 281 #[.int .u8 11, .int .u32 a, .int .i64 n] w fun e w' => e = .returned (.int .u32 (shv 11 a n.toNat)) ∧ w = w' := by
  have H0 := Lib.hid (shv111_0 a h0 h1 ht)
  have Hn := Lib.hid (fun k => shv111_next a k h0 h1 ht)
  go_enter Tryz.func281, Tryz.ntmps281
  go_wp2
  go_loop [1, 8] (shRel 11 a n) (fun _ i => n.toNat - (intOf i).toNat)
  case atStart => exact ⟨0, a, by omega, rfl, rfl, h0, h1, H0.out⟩
  case round =>
    obtain ⟨k, x, hk, rfl, rfl, x0, x1, hx⟩ := hrel
    have Hx := Lib.hid hx
    clear hx
    by_cases hk2 : (k : Int) < n
    · have Hnx := Lib.hid (Hx.out ▸ Hn.out k)
      go_wp2
      go_round
      case rel => exact ⟨k + 1, _, by omega, by go_num, rfl, by omega, by omega, by first | exact Hnx.out | (rw [← Hnx.out]; omega)⟩
      case measure => simp [intOf] <;> omega
    · obtain rfl : (k : Int) = n := by omega
      go_wp2
      go_ret
      exact ⟨ret_int Hx.out, rfl⟩
theorem shv11_any (a n : Int) (h0 : 0 ≤ a) (h1 : a ≤ 4294967295) (n0 : 0 ≤ n) (n1 : n ≤ 31) (w : World) :
    Calls Tryz.prog 281 #[.int .u8 11, .int .u32 a, .int .i64 n] w fun e w' => e = .returned (.int .u32 (shv 11 a n.toNat)) ∧ w = w' := by
  by_cases h : a < 2147483648
  · exact shift110 a n h0 h1 n0 n1 h w
  · exact shift111 a n h0 h1 n0 n1 (by omega) w
theorem mul_mod (a b : Int) : (IntKind.u64.wrap (a * b)).tmod 4294967296 % 4294967296 = a * b % 4294967296 := by
  rw [IntKind.wrap_u64, tmod_of_emod]
  generalize a * b = t
  omega

theorem op1 (a b : Int) (h0 : 0 ≤ a) (h1 : a ≤ 4294967295) (h2 : 0 ≤ b) (h3 : b ≤ 4294967295) (w : World) : Calls Tryz.prog 256 #[.int .u8 1, .int .u32 a, .int .u32 b] w fun e w' => e = .returned (.tuple #[.int .u32 ((a + b) % 4294967296), .int .i64 0]) ∧ w = w' := by
  go_enter Tryz.func256, Tryz.ntmps256
  go_wp2_with (fail)
  all_goals go_ret2
  all_goals exact ⟨ret_ie rfl, rfl⟩
theorem op2 (a b : Int) (h0 : 0 ≤ a) (h1 : a ≤ 4294967295) (h2 : 0 ≤ b) (h3 : b ≤ 4294967295) (w : World) : Calls Tryz.prog 256 #[.int .u8 2, .int .u32 a, .int .u32 b] w fun e w' => e = .returned (.tuple #[.int .u32 ((a - b) % 4294967296), .int .i64 0]) ∧ w = w' := by
  go_enter Tryz.func256, Tryz.ntmps256
  go_wp2_with (fail)
  all_goals go_ret2
  all_goals exact ⟨ret_ie (by omega), rfl⟩
theorem op3 (a b : Int) (h0 : 0 ≤ a) (h1 : a ≤ 4294967295) (h2 : 0 ≤ b) (h3 : b ≤ 4294967295) (w : World) : Calls Tryz.prog 256 #[.int .u8 3, .int .u32 a, .int .u32 b] w fun e w' => e = .returned (.tuple #[.int .u32 (a * b % 4294967296), .int .i64 0]) ∧ w = w' := by
  go_enter Tryz.func256, Tryz.ntmps256
  go_wp2_with (fail)
  all_goals go_ret2
  all_goals exact ⟨ret_ie (mul_mod a b), rfl⟩
theorem op4 (a b : Int) (h0 : 0 ≤ a) (h1 : a ≤ 4294967295) (h2 : 0 ≤ b) (h3 : b ≤ 4294967295) (w : World) : Calls Tryz.prog 256 #[.int .u8 4, .int .u32 a, .int .u32 b] w fun e w' => e = .returned (.tuple #[.int .u32 (divu a b), .int .i64 0]) ∧ w = w' := by
  by_cases hb : b = 0
  · subst hb
    go_enter Tryz.func256, Tryz.ntmps256
    go_wp2
    go_ret2
    exact ⟨ret_ie rfl, rfl⟩
  · have hv := Lib.hid (divu_ne a b hb)
    go_enter Tryz.func256, Tryz.ntmps256
    go_wp2
    go_ret2
    exact ⟨ret_ie hv.out.symm, rfl⟩
theorem op5 (a b : Int) (h0 : 0 ≤ a) (h1 : a ≤ 4294967295) (h2 : 0 ≤ b) (h3 : b ≤ 4294967295) (w : World) : Calls Tryz.prog 256 #[.int .u8 5, .int .u32 a, .int .u32 b] w fun e w' => e = .returned (.tuple #[.int .u32 (remu a b), .int .i64 0]) ∧ w = w' := by
  by_cases hb : b = 0
  · subst hb
    go_enter Tryz.func256, Tryz.ntmps256
    go_wp2
    go_ret2
    exact ⟨ret_ie rfl, rfl⟩
  · have hv := Lib.hid (remu_ne a b hb)
    go_enter Tryz.func256, Tryz.ntmps256
    go_wp2
    go_ret2
    exact ⟨ret_ie hv.out.symm, rfl⟩
theorem op6 (a b : Int) (h0 : 0 ≤ a) (h1 : a ≤ 4294967295) (h2 : 0 ≤ b) (h3 : b ≤ 4294967295) (w : World) : Calls Tryz.prog 256 #[.int .u8 6, .int .u32 a, .int .u32 b] w fun e w' => e = .returned (.tuple #[.int .u32 (Go.bits .and .u32 a b), .int .i64 0]) ∧ w = w' := by
  go_enter Tryz.func256, Tryz.ntmps256
  go_wp2_with ((go_at_call 280; refine (bits _ _ _ _ h0 h1 h2 h3 (by omega) (by omega) (by omega) (by omega) _).mono ?_; rintro e w1 ⟨rfl, rfl⟩))
  all_goals go_ret2
  all_goals exact ⟨ret_ie (acc_and a b h0 h1 h2 h3), rfl⟩
theorem op7 (a b : Int) (h0 : 0 ≤ a) (h1 : a ≤ 4294967295) (h2 : 0 ≤ b) (h3 : b ≤ 4294967295) (w : World) : Calls Tryz.prog 256 #[.int .u8 7, .int .u32 a, .int .u32 b] w fun e w' => e = .returned (.tuple #[.int .u32 (Go.bits .or .u32 a b), .int .i64 0]) ∧ w = w' := by
  go_enter Tryz.func256, Tryz.ntmps256
  go_wp2_with ((go_at_call 280; refine (bits _ _ _ _ h0 h1 h2 h3 (by omega) (by omega) (by omega) (by omega) _).mono ?_; rintro e w1 ⟨rfl, rfl⟩))
  all_goals go_ret2
  all_goals exact ⟨ret_ie (acc_or a b h0 h1 h2 h3), rfl⟩
theorem op8 (a b : Int) (h0 : 0 ≤ a) (h1 : a ≤ 4294967295) (h2 : 0 ≤ b) (h3 : b ≤ 4294967295) (w : World) : Calls Tryz.prog 256 #[.int .u8 8, .int .u32 a, .int .u32 b] w fun e w' => e = .returned (.tuple #[.int .u32 (Go.bits .xor .u32 a b), .int .i64 0]) ∧ w = w' := by
  go_enter Tryz.func256, Tryz.ntmps256
  go_wp2_with ((go_at_call 280; refine (bits _ _ _ _ h0 h1 h2 h3 (by omega) (by omega) (by omega) (by omega) _).mono ?_; rintro e w1 ⟨rfl, rfl⟩))
  all_goals go_ret2
  all_goals exact ⟨ret_ie (acc_xor a b h0 h1 h2 h3), rfl⟩
theorem op9 (a b : Int) (h0 : 0 ≤ a) (h1 : a ≤ 4294967295) (h2 : 0 ≤ b) (h3 : b ≤ 4294967295) (w : World) : Calls Tryz.prog 256 #[.int .u8 9, .int .u32 a, .int .u32 b] w fun e w' => e = .returned (.tuple #[.int .u32 (a * 2 ^ (b % 32).toNat % 4294967296), .int .i64 0]) ∧ w = w' := by
  go_enter Tryz.func256, Tryz.ntmps256
  go_wp2_with ((go_at_call 281; refine (shift9 _ _ h0 h1 (by omega) (by omega) _).mono ?_; rintro e w1 ⟨rfl, rfl⟩))
  all_goals go_ret2
  all_goals exact ⟨ret_ie rfl, rfl⟩
theorem op10 (a b : Int) (h0 : 0 ≤ a) (h1 : a ≤ 4294967295) (h2 : 0 ≤ b) (h3 : b ≤ 4294967295) (w : World) : Calls Tryz.prog 256 #[.int .u8 10, .int .u32 a, .int .u32 b] w fun e w' => e = .returned (.tuple #[.int .u32 (a / 2 ^ (b % 32).toNat), .int .i64 0]) ∧ w = w' := by
  go_enter Tryz.func256, Tryz.ntmps256
  go_wp2_with ((go_at_call 281; refine (shift10 _ _ h0 h1 (by omega) (by omega) _).mono ?_; rintro e w1 ⟨rfl, rfl⟩))
  all_goals go_ret2
  all_goals exact ⟨ret_ie rfl, rfl⟩
theorem op11 (a b : Int) (h0 : 0 ≤ a) (h1 : a ≤ 4294967295) (h2 : 0 ≤ b) (h3 : b ≤ 4294967295) (w : World) : Calls Tryz.prog 256 #[.int .u8 11, .int .u32 a, .int .u32 b] w fun e w' => e = .returned (.tuple #[.int .u32 (wrap32 a / 2 ^ (b % 32).toNat % 4294967296), .int .i64 0]) ∧ w = w' := by
  go_enter Tryz.func256, Tryz.ntmps256
  go_wp2_with ((go_at_call 281; refine (shv11_any _ _ h0 h1 (by omega) (by omega) _).mono ?_; rintro e w1 ⟨rfl, rfl⟩))
  all_goals go_ret2
  all_goals exact ⟨ret_ie rfl, rfl⟩
theorem op12 (a b : Int) (h0 : 0 ≤ a) (h1 : a ≤ 4294967295) (h2 : 0 ≤ b) (h3 : b ≤ 4294967295) (w : World) : Calls Tryz.prog 256 #[.int .u8 12, .int .u32 a, .int .u32 b] w fun e w' => e = .returned (.tuple #[.int .u32 (Word.one (decide (wrap32 a < wrap32 b))), .int .i64 0]) ∧ w = w' := by
  go_enter Tryz.func256, Tryz.ntmps256
  go_wp2_with (first | (go_at_call 282; refine (one _ _).mono ?_; rintro e w1 ⟨rfl, rfl⟩) | (go_at_call 283; refine (signed _ (by assumption) (by assumption) _).mono ?_; rintro e w1 ⟨rfl, rfl⟩))
  all_goals go_ret2
  all_goals exact ⟨ret_ie rfl, rfl⟩
theorem op13 (a b : Int) (h0 : 0 ≤ a) (h1 : a ≤ 4294967295) (h2 : 0 ≤ b) (h3 : b ≤ 4294967295) (w : World) : Calls Tryz.prog 256 #[.int .u8 13, .int .u32 a, .int .u32 b] w fun e w' => e = .returned (.tuple #[.int .u32 (Word.one (decide (a < b))), .int .i64 0]) ∧ w = w' := by
  go_enter Tryz.func256, Tryz.ntmps256
  go_wp2_with ((go_at_call 282; refine (one _ _).mono ?_; rintro e w1 ⟨rfl, rfl⟩))
  all_goals go_ret2
  all_goals exact ⟨ret_ie rfl, rfl⟩
theorem op14 (a b : Int) (h0 : 0 ≤ a) (h1 : a ≤ 4294967295) (h2 : 0 ≤ b) (h3 : b ≤ 4294967295) (w : World) : Calls Tryz.prog 256 #[.int .u8 14, .int .u32 a, .int .u32 b] w fun e w' => e = .returned (.tuple #[.int .u32 (Word.one (a == b)), .int .i64 0]) ∧ w = w' := by
  go_enter Tryz.func256, Tryz.ntmps256
  go_wp2_with ((go_at_call 282; refine (one _ _).mono ?_; rintro e w1 ⟨rfl, rfl⟩))
  all_goals go_ret2
  all_goals exact ⟨ret_ie rfl, rfl⟩
theorem op0 (fn a b : Int) (hf : fn = 0) (hf2 : fn ≤ 255) (h0 : 0 ≤ a) (h1 : a ≤ 4294967295) (h2 : 0 ≤ b) (h3 : b ≤ 4294967295) (w : World) : Calls Tryz.prog 256 #[.int .u8 fn, .int .u32 a, .int .u32 b] w fun e w' => e = .returned (.tuple #[.int .u32 0, .int .i64 2]) ∧ w = w' := by
  subst hf
  go_enter Tryz.func256, Tryz.ntmps256
  go_wp2
  go_ret2
  exact ⟨rfl, rfl⟩
theorem op15 (fn a b : Int) (hf : 15 ≤ fn) (hf2 : fn ≤ 255) (h0 : 0 ≤ a) (h1 : a ≤ 4294967295) (h2 : 0 ≤ b) (h3 : b ≤ 4294967295) (w : World) : Calls Tryz.prog 256 #[.int .u8 fn, .int .u32 a, .int .u32 b] w fun e w' => e = .returned (.tuple #[.int .u32 0, .int .i64 2]) ∧ w = w' := by
  skip
  go_enter Tryz.func256, Tryz.ntmps256
  go_wp2
  go_ret2
  exact ⟨rfl, rfl⟩
theorem Op (fn a b : Int) (f0 : 0 ≤ fn) (f1 : fn ≤ 255) (h0 : 0 ≤ a) (h1 : a ≤ 4294967295) (h2 : 0 ≤ b) (h3 : b ≤ 4294967295) (w : World) : Calls Tryz.prog 256 #[.int .u8 fn, .int .u32 a, .int .u32 b] w fun e w' => e = .returned (.tuple #[.int .u32 (opv fn a b), .int .i64 (ope fn)]) ∧ w = w' := by
  by_cases hf : 15 ≤ fn
  · have e1 : opv fn a b = 0 := opv_high fn a b hf
    have e2 : ope fn = 2 := ope_high fn hf
    rw [e1, e2]
    exact op15 fn a b hf f1 h0 h1 h2 h3 w
  · have : fn = 0 ∨ fn = 1 ∨ fn = 2 ∨ fn = 3 ∨ fn = 4 ∨ fn = 5 ∨ fn = 6 ∨ fn = 7 ∨ fn = 8 ∨ fn = 9 ∨ fn = 10 ∨ fn = 11 ∨ fn = 12 ∨ fn = 13 ∨ fn = 14 := by omega
    rcases this with rfl | rfl | rfl | rfl | rfl | rfl | rfl | rfl | rfl | rfl | rfl | rfl | rfl | rfl | rfl
    · exact op0 0 a b rfl f1 h0 h1 h2 h3 w
    · exact op1 a b h0 h1 h2 h3 w
    · exact op2 a b h0 h1 h2 h3 w
    · exact op3 a b h0 h1 h2 h3 w
    · exact op4 a b h0 h1 h2 h3 w
    · exact op5 a b h0 h1 h2 h3 w
    · exact op6 a b h0 h1 h2 h3 w
    · exact op7 a b h0 h1 h2 h3 w
    · exact op8 a b h0 h1 h2 h3 w
    · exact op9 a b h0 h1 h2 h3 w
    · exact op10 a b h0 h1 h2 h3 w
    · exact op11 a b h0 h1 h2 h3 w
    · exact op12 a b h0 h1 h2 h3 w
    · exact op13 a b h0 h1 h2 h3 w
    · exact op14 a b h0 h1 h2 h3 w
end Go.Proofs.YtkbhokmnbpnlbaaGreat.WordRef
/- The walk of aediculeref01.Get. -/
namespace Go.Proofs.YtkbhokmnbpnlbaaGreat.WordRef
open Go.RowKit Word
set_option linter.unusedVariables false
theorem getV_drop (s : ByteArray) (j : Nat) (hj : j < s.size) : getV ((nums s).drop j) = 256 * getV ((nums s).drop (j + 1)) + ((s[j]'hj).toNat : Int) := by
  have hl : j < (nums s).length := by rw [nums_length]; exact hj
  rw [List.drop_eq_getElem_cons hl]
  have e := nums_get s j hj
  rw [e, List.getD, List.getElem?_eq_getElem hl]
  show (nums s)[j] + 256 * getV _ = _
  simp only [Option.getD_some]
  omega
theorem getV_drop_bd (s : ByteArray) (j : Nat) (h4 : s.size ≤ 4) : 0 ≤ getV ((nums s).drop j) ∧ getV ((nums s).drop j) ≤ 4294967295 := by
  have hb := getV_bd ((nums s).drop j) fun y hy => nums_bd s y (List.mem_of_mem_drop hy)
  have hl : ((nums s).drop j).length ≤ 4 := by rw [List.length_drop, nums_length]; omega
  generalize ((nums s).drop j).length = n at hb hl
  have : n = 0 ∨ n = 1 ∨ n = 2 ∨ n = 3 ∨ n = 4 := by omega
  rcases this with rfl | rfl | rfl | rfl | rfl <;> simp at hb <;> omega
def getRelR (s : ByteArray) (v i : Value) : Prop := ∃ (k : Nat) (x : Int), k ≤ s.size ∧ i = .int .i64 ((s.size : Int) - 1 - k) ∧ v = .int .u32 x ∧ 0 ≤ x ∧ x ≤ 4294967295 ∧ x = getV ((nums s).drop (s.size - k))
theorem get_ok (s : ByteArray) (h1 : 1 ≤ s.size) (h4 : s.size ≤ 4) (w : World) :
    Calls Tryz.prog 255 #[.string s] w fun e w' => e = .returned (.tuple #[.int .u32 (getV (nums s)), .int .i64 0]) ∧ w = w' := by
  go_enter Tryz.func255, Tryz.ntmps255
  go_wp2
  go_loop [4, 5] (fun v i => getRelR s v i) (fun _ i => (intOf i + 1).toNat)
  case atStart => exact ⟨0, 0, by omega, by simp, rfl, by omega, by omega, by rw [Nat.sub_zero, List.drop_of_length_le (by rw [nums_length]; omega)]; rfl⟩
  case round =>
    obtain ⟨k, x, hk, rfl, rfl, x0, x1, hx⟩ := hrel
    by_cases hk2 : k < s.size
    · obtain ⟨j, hj⟩ : ∃ j : Nat, s.size - 1 - k = j := ⟨_, rfl⟩
      have hjs : j < s.size := by omega
      have hj1 : s.size - k = j + 1 := by omega
      have ej : (s.size : Int) - 1 - k = (j : Int) := by omega
      have hb8 := byte_bd (s[j]'hjs)
      have hn := getV_drop s j hjs
      rw [← hj1, ← hx] at hn
      have hbd := getV_drop_bd s j h4
      have Hn := Lib.hid hn
      have Hbd := Lib.hid hbd
      have Hj := Lib.hid (show s.size - (k + 1) = j by omega)
      rw [ej]
      clear hn hbd ej hx
      go_wp2
      have e1 := Hn.out
      have e2 := Hbd.out
      refine ⟨⟨k + 1, _, by omega, congrArg _ (by omega), rfl, by omega, by omega, ?_⟩, by simp [intOf]⟩
      rw [Hj.out, e1]
      omega
    · obtain rfl : k = s.size := by omega
      have hneg : (s.size : Int) - 1 - (s.size : Int) = -1 := by omega
      rw [hneg]
      rw [Nat.sub_self, List.drop_zero] at hx
      have Hx := Lib.hid hx
      clear hx hneg
      go_wp2
      go_ret2
      exact ⟨ret_ie Hx.out, rfl⟩
end Go.Proofs.YtkbhokmnbpnlbaaGreat.WordRef
