/- The walks of aediculelaw01's op and alive. -/
import Derived.Test.YtijdeljkppghbaaWordOp
import Derived.Test.YtijdeljkppghbaaWordTurned
import Derived.Test.YtijdeljkppghbaaWordUnhex
namespace Go.Proofs.Ytijdeljkppghbaa.Word
open Go.RowKit
set_option linter.unusedVariables false
theorem opv_bd (fn a b : Int) (h0 : 0 ≤ a) (h1 : a ≤ 4294967295) (h2 : 0 ≤ b) (h3 : b ≤ 4294967295) : 0 ≤ opv fn a b ∧ opv fn a b ≤ 4294967295 := by
  obtain ⟨x, rfl⟩ := Int.eq_ofNat_of_zero_le h0
  obtain ⟨y, rfl⟩ := Int.eq_ofNat_of_zero_le h2
  unfold opv
  split
  · omega
  · omega
  · generalize (x : Int) * y = t; omega
  · unfold divu; split
    · omega
    · have := Int.ediv_nonneg h0 h2
      have := Int.ediv_le_self (y : Int) h0
      omega
  · unfold remu; split
    · omega
    · have := Int.emod_nonneg (x : Int) (b := (y : Int)) (by omega)
      have := Int.emod_lt_of_pos (x : Int) (b := (y : Int)) (by omega)
      omega
  · rw [u32_and_nat x y (by omega) (by omega)]
    have : x &&& y ≤ x := Nat.and_le_left
    omega
  · rw [u32_or_nat x y (by omega) (by omega)]
    have : x ||| y < 2 ^ 32 := Nat.or_lt_two_pow (by omega) (by omega)
    omega
  · rw [u32_xor_nat x y (by omega) (by omega)]
    have : x ^^^ y < 2 ^ 32 := Nat.xor_lt_two_pow (by omega) (by omega)
    omega
  · omega
  · have := Int.ediv_nonneg h0 (b := 2 ^ ((y : Int) % 32).toNat) (Int.le_of_lt (Int.pow_pos (by omega)))
    have := Int.ediv_le_self (2 ^ ((y : Int) % 32).toNat) h0
    omega
  · omega
  · unfold one; split <;> omega
  · unfold one; split <;> omega
  · unfold one; split <;> omega
  · omega
theorem op (fn a b : Int) (f0 : 0 ≤ fn) (f1 : fn ≤ 255) (h0 : 0 ≤ a) (h1 : a ≤ 4294967295) (h2 : 0 ≤ b) (h3 : b ≤ 4294967295) (w : World) :
    Calls Try.prog 19 #[.int .u8 fn, .int .u32 a, .int .u32 b] w fun e w' => e = .returned (.int .u32 (opv fn a b)) ∧ Below w.heap.size w w' := by
  go_enter Try.func19, Try.ntmps19
  go_wp2_with (go_at_call 16; refine (Op _ _ _ f0 f1 h0 h1 h2 h3 _).mono ?_; rintro e w1 ⟨rfl, hb⟩)
  go_ret
  exact ⟨rfl, by assumption⟩
theorem unhex1 (w : World) : Calls Try.prog 28 #[.string ⟨#[49]⟩] w fun e w' => e = .returned (.tuple #[.string ByteArray.empty, .int .i64 2]) ∧ w = w' := unhexOdd ⟨#[49]⟩ (by decide) (by decide) w
theorem hex2 (w : World) : Calls Try.prog 30 #[.string ⟨#[1, 255]⟩] w fun e w' => e = .returned (.string ⟨#[48, 49, 102, 102]⟩) ∧ Below w.heap.size w w' :=
  (hex ⟨#[1, 255]⟩ (by decide) w).mono fun e w' ⟨h1, h2⟩ => ⟨by rw [h1]; rfl, h2⟩
theorem alive (w : World) : Calls Try.prog 18 #[] w fun e w' => e = .returned (.bool true) ∧ Below w.heap.size w w' := by
  have e1 : (opv 4 7 0 == 4294967295) = true := by decide
  have e2 : (opv 5 7 0 == 7) = true := by decide
  have e3 : (opv 11 2147483648 31 == 4294967295) = true := by decide +kernel
  have e4 : (opv 9 1 33 == 2) = true := by decide
  have e5 : putS 258 2 = ⟨#[2, 1]⟩ := by decide
  have e6 : putHS 258 2 = ⟨#[1, 2]⟩ := by decide
  go_enter Try.func18, Try.ntmps18
  go_wp2_with (first
    | (go_at_call 20; (with_reducible refine (put2_ok 258 (by omega) (by omega) (by decide) _).mono ?_); rintro e w1 ⟨rfl, hb⟩)
    | (go_at_call 20; (with_reducible refine (put1_long 256 (by omega) (by omega) (by decide) _).mono ?_); rintro e w1 ⟨rfl, rfl⟩)
    | (go_at_call 22; (with_reducible refine (putHigh2 258 (by omega) (by omega) (by decide) _).mono ?_); rintro e w1 ⟨rfl, hb⟩)
    | (go_at_call 28; (with_reducible refine (unhex1 _).mono ?_); rintro e w1 ⟨rfl, rfl⟩)
    | (go_at_call 30; (with_reducible refine (hex2 _).mono ?_); rintro e w1 ⟨rfl, hb⟩)
    | (go_at_call 16; (with_reducible refine (op15 15 1 1 (by omega) (by omega) (by omega) (by omega) (by omega) (by omega) _).mono ?_); rintro e w1 ⟨rfl, hb⟩)
    | (go_at_call 19; (with_reducible refine (op _ _ _ (by omega) (by omega) (by omega) (by omega) (by omega) (by omega) _).mono ?_); rintro e w1 ⟨rfl, hb⟩))
  go_ret
  exact ⟨rfl, by repeat (first | exact Below.refl _ _ | assumption | refine below_th (by assumption) ?_)⟩
end Go.Proofs.Ytijdeljkppghbaa.Word
