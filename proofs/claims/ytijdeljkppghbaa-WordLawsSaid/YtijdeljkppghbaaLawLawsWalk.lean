/- The walk of aediculelaw01.WordLaws. -/
import Derived.Test.YtijdeljkppghbaaWordAlive
import Derived.Test.YtijdeljkppghbaaWordLawsP
import Derived.OpenShut
namespace Go.Proofs.Ytijdeljkppghbaa.Word
open Go.RowKit
set_option linter.unusedVariables false
theorem neq_f {a b : Int} (h : a = b) : (a != b) = false := by rw [h]; simp

set_option maxRecDepth 100000 in
set_option maxHeartbeats 1000000 in
theorem laws_00z (a b n k : Int) (hk : n % 32 = k) (h0 : 0 ≤ a) (h1 : a ≤ 4294967295) (h2 : 0 ≤ b) (h3 : b ≤ 4294967295) (n0 : 0 ≤ n) (n1 : n ≤ 255) (ca : a < 2147483648) (b0 : b = 0) (w : World) :
    Calls Try.prog 5 #[.int .u32 a, .int .u32 b, .int .u8 n] w fun e w' => e = .returned (.bool true) ∧ Below w.heap.size w w' := by
  have k0 : 0 ≤ k := by omega
  have k1 : k ≤ 31 := by omega
  have q0 := opv_bd 1 a b (by omega) (by omega) (by omega) (by omega)
  have q1 := opv_bd 4 a b (by omega) (by omega) (by omega) (by omega)
  have q2 := opv_bd 3 (opv 4 a b) b (by omega) (by omega) (by omega) (by omega)
  have q3 := opv_bd 5 a b (by omega) (by omega) (by omega) (by omega)
  have q4 := opv_bd 8 a b (by omega) (by omega) (by omega) (by omega)
  have q5 := opv_bd 6 a b (by omega) (by omega) (by omega) (by omega)
  have q6 := opv_bd 3 2 (opv 6 a b) (by omega) (by omega) (by omega) (by omega)
  have q7 := opv_bd 7 a b (by omega) (by omega) (by omega) (by omega)
  have q8 := opv_bd 9 1 k (by omega) (by omega) (by omega) (by omega)
  have q9 := opv_bd 2 4294967295 a (by omega) (by omega) (by omega) (by omega)
  have q10 := opv_bd 10 (opv 2 4294967295 a) k (by omega) (by omega) (by omega) (by omega)
  have q11 := opv_bd 13 a b (by omega) (by omega) (by omega) (by omega)
  have q12 := opv_bd 13 b a (by omega) (by omega) (by omega) (by omega)
  have q13 := opv_bd 14 a b (by omega) (by omega) (by omega) (by omega)
  have q14 := opv_bd 12 a b (by omega) (by omega) (by omega) (by omega)
  have q15 := opv_bd 12 b a (by omega) (by omega) (by omega) (by omega)
  have t1 := neq_f (l_sub a b h0 h1)
  have t2 := neq_f (l_div a b h0 h1 h2 h3)
  have t4 := neq_f (l_xor a b h0 h1 h2 h3)
  have t5 := neq_f (l_or a b h0 h1 h2 h3)
  have t6 := neq_f (l_shl a k k0 k1)
  have t7 := neq_f (l_shr a k k0 k1)
  have t8 := neq_f (l_round a k)
  subst b0
  have t9 := l_high0 a ca
  have t10 := l_high0 0 (by omega)
  have t11 := neq_f (l_sar0 a k h0 h1 k0 k1 ca)
  have t12 := neq_f (l_same0 a 0 h0 h1 h2 h3 ca (by omega))
  have t13 : ((opv 13 a 0 + opv 13 0 a + opv 14 a 0) % 4294967296 == 1) = true := by rw [l_three a 0]; rfl
  have t14 : ((opv 12 a 0 + opv 12 0 a + opv 14 a 0) % 4294967296 == 1) = true := by rw [l_threes a 0 h0 h1 h2 h3]; rfl
  have hkr : (n % 32 : Int) = k := hk
  clear hk
  go_enter Try.func5, Try.ntmps5
  go_wp2_with (first
    | (go_at_call 19; (with_reducible refine (op _ _ _ (by omega) (by omega) (by omega) (by omega) (by omega) (by omega) _).mono ?_); rintro e w1 ⟨rfl, hb⟩)
    | (go_at_call 18; (with_reducible refine (alive _).mono ?_); rintro e w1 ⟨rfl, hb⟩))
  go_ret
  exact ⟨rfl, by repeat (first | exact Below.refl _ _ | assumption | refine below_th (by assumption) ?_)⟩

set_option maxRecDepth 100000 in
set_option maxHeartbeats 1000000 in
theorem laws_10z (a b n k : Int) (hk : n % 32 = k) (h0 : 0 ≤ a) (h1 : a ≤ 4294967295) (h2 : 0 ≤ b) (h3 : b ≤ 4294967295) (n0 : 0 ≤ n) (n1 : n ≤ 255) (ca : 2147483648 ≤ a) (b0 : b = 0) (w : World) :
    Calls Try.prog 5 #[.int .u32 a, .int .u32 b, .int .u8 n] w fun e w' => e = .returned (.bool true) ∧ Below w.heap.size w w' := by
  have k0 : 0 ≤ k := by omega
  have k1 : k ≤ 31 := by omega
  have q0 := opv_bd 1 a b (by omega) (by omega) (by omega) (by omega)
  have q1 := opv_bd 4 a b (by omega) (by omega) (by omega) (by omega)
  have q2 := opv_bd 3 (opv 4 a b) b (by omega) (by omega) (by omega) (by omega)
  have q3 := opv_bd 5 a b (by omega) (by omega) (by omega) (by omega)
  have q4 := opv_bd 8 a b (by omega) (by omega) (by omega) (by omega)
  have q5 := opv_bd 6 a b (by omega) (by omega) (by omega) (by omega)
  have q6 := opv_bd 3 2 (opv 6 a b) (by omega) (by omega) (by omega) (by omega)
  have q7 := opv_bd 7 a b (by omega) (by omega) (by omega) (by omega)
  have q8 := opv_bd 9 1 k (by omega) (by omega) (by omega) (by omega)
  have q9 := opv_bd 2 4294967295 a (by omega) (by omega) (by omega) (by omega)
  have q10 := opv_bd 10 (opv 2 4294967295 a) k (by omega) (by omega) (by omega) (by omega)
  have q11 := opv_bd 13 a b (by omega) (by omega) (by omega) (by omega)
  have q12 := opv_bd 13 b a (by omega) (by omega) (by omega) (by omega)
  have q13 := opv_bd 14 a b (by omega) (by omega) (by omega) (by omega)
  have q14 := opv_bd 12 a b (by omega) (by omega) (by omega) (by omega)
  have q15 := opv_bd 12 b a (by omega) (by omega) (by omega) (by omega)
  have t1 := neq_f (l_sub a b h0 h1)
  have t2 := neq_f (l_div a b h0 h1 h2 h3)
  have t4 := neq_f (l_xor a b h0 h1 h2 h3)
  have t5 := neq_f (l_or a b h0 h1 h2 h3)
  have t6 := neq_f (l_shl a k k0 k1)
  have t7 := neq_f (l_shr a k k0 k1)
  have t8 := neq_f (l_round a k)
  subst b0
  have t9 := l_high1 a ca
  have t10 := l_high0 0 (by omega)
  have t11 := neq_f (l_sar1 a k h0 h1 k0 k1 ca)
  have t12 := l_unlike1 a 0 h0 h1 h2 h3 ca (by omega)
  have t13 : ((opv 13 a 0 + opv 13 0 a + opv 14 a 0) % 4294967296 == 1) = true := by rw [l_three a 0]; rfl
  have t14 : ((opv 12 a 0 + opv 12 0 a + opv 14 a 0) % 4294967296 == 1) = true := by rw [l_threes a 0 h0 h1 h2 h3]; rfl
  have hkr : (n % 32 : Int) = k := hk
  clear hk
  go_enter Try.func5, Try.ntmps5
  go_wp2_with (first
    | (go_at_call 19; (with_reducible refine (op _ _ _ (by omega) (by omega) (by omega) (by omega) (by omega) (by omega) _).mono ?_); rintro e w1 ⟨rfl, hb⟩)
    | (go_at_call 18; (with_reducible refine (alive _).mono ?_); rintro e w1 ⟨rfl, hb⟩))
  go_ret
  exact ⟨rfl, by repeat (first | exact Below.refl _ _ | assumption | refine below_th (by assumption) ?_)⟩

set_option maxRecDepth 100000 in
set_option maxHeartbeats 1000000 in
theorem laws_00 (a b n k : Int) (hk : n % 32 = k) (h0 : 0 ≤ a) (h1 : a ≤ 4294967295) (h2 : 0 ≤ b) (h3 : b ≤ 4294967295) (n0 : 0 ≤ n) (n1 : n ≤ 255) (ca : a < 2147483648) (cb : b < 2147483648) (c0 : 0 < b) (w : World) :
    Calls Try.prog 5 #[.int .u32 a, .int .u32 b, .int .u8 n] w fun e w' => e = .returned (.bool true) ∧ Below w.heap.size w w' := by
  have k0 : 0 ≤ k := by omega
  have k1 : k ≤ 31 := by omega
  have q0 := opv_bd 1 a b (by omega) (by omega) (by omega) (by omega)
  have q1 := opv_bd 4 a b (by omega) (by omega) (by omega) (by omega)
  have q2 := opv_bd 3 (opv 4 a b) b (by omega) (by omega) (by omega) (by omega)
  have q3 := opv_bd 5 a b (by omega) (by omega) (by omega) (by omega)
  have q4 := opv_bd 8 a b (by omega) (by omega) (by omega) (by omega)
  have q5 := opv_bd 6 a b (by omega) (by omega) (by omega) (by omega)
  have q6 := opv_bd 3 2 (opv 6 a b) (by omega) (by omega) (by omega) (by omega)
  have q7 := opv_bd 7 a b (by omega) (by omega) (by omega) (by omega)
  have q8 := opv_bd 9 1 k (by omega) (by omega) (by omega) (by omega)
  have q9 := opv_bd 2 4294967295 a (by omega) (by omega) (by omega) (by omega)
  have q10 := opv_bd 10 (opv 2 4294967295 a) k (by omega) (by omega) (by omega) (by omega)
  have q11 := opv_bd 13 a b (by omega) (by omega) (by omega) (by omega)
  have q12 := opv_bd 13 b a (by omega) (by omega) (by omega) (by omega)
  have q13 := opv_bd 14 a b (by omega) (by omega) (by omega) (by omega)
  have q14 := opv_bd 12 a b (by omega) (by omega) (by omega) (by omega)
  have q15 := opv_bd 12 b a (by omega) (by omega) (by omega) (by omega)
  have t1 := neq_f (l_sub a b h0 h1)
  have t2 := neq_f (l_div a b h0 h1 h2 h3)
  have t4 := neq_f (l_xor a b h0 h1 h2 h3)
  have t5 := neq_f (l_or a b h0 h1 h2 h3)
  have t6 := neq_f (l_shl a k k0 k1)
  have t7 := neq_f (l_shr a k k0 k1)
  have t8 := neq_f (l_round a k)
  have t3 : decide (b ≤ opv 5 a b) = false := decide_eq_false (by have := l_rem a b h2 h3 c0; omega)
  have t9 := l_high0 a ca
  have t10 := l_high0 b cb
  have t11 := neq_f (l_sar0 a k h0 h1 k0 k1 ca)
  have t12 := neq_f (l_same0 a b h0 h1 h2 h3 ca cb)
  have t13 : ((opv 13 a b + opv 13 b a + opv 14 a b) % 4294967296 == 1) = true := by rw [l_three a b]; rfl
  have t14 : ((opv 12 a b + opv 12 b a + opv 14 a b) % 4294967296 == 1) = true := by rw [l_threes a b h0 h1 h2 h3]; rfl
  have hkr : (n % 32 : Int) = k := hk
  clear hk
  go_enter Try.func5, Try.ntmps5
  go_wp2_with (first
    | (go_at_call 19; (with_reducible refine (op _ _ _ (by omega) (by omega) (by omega) (by omega) (by omega) (by omega) _).mono ?_); rintro e w1 ⟨rfl, hb⟩)
    | (go_at_call 18; (with_reducible refine (alive _).mono ?_); rintro e w1 ⟨rfl, hb⟩))
  go_ret
  exact ⟨rfl, by repeat (first | exact Below.refl _ _ | assumption | refine below_th (by assumption) ?_)⟩

set_option maxRecDepth 100000 in
set_option maxHeartbeats 1000000 in
theorem laws_01 (a b n k : Int) (hk : n % 32 = k) (h0 : 0 ≤ a) (h1 : a ≤ 4294967295) (h2 : 0 ≤ b) (h3 : b ≤ 4294967295) (n0 : 0 ≤ n) (n1 : n ≤ 255) (ca : a < 2147483648) (cb : 2147483648 ≤ b) (c0 : 0 < b) (w : World) :
    Calls Try.prog 5 #[.int .u32 a, .int .u32 b, .int .u8 n] w fun e w' => e = .returned (.bool true) ∧ Below w.heap.size w w' := by
  have k0 : 0 ≤ k := by omega
  have k1 : k ≤ 31 := by omega
  have q0 := opv_bd 1 a b (by omega) (by omega) (by omega) (by omega)
  have q1 := opv_bd 4 a b (by omega) (by omega) (by omega) (by omega)
  have q2 := opv_bd 3 (opv 4 a b) b (by omega) (by omega) (by omega) (by omega)
  have q3 := opv_bd 5 a b (by omega) (by omega) (by omega) (by omega)
  have q4 := opv_bd 8 a b (by omega) (by omega) (by omega) (by omega)
  have q5 := opv_bd 6 a b (by omega) (by omega) (by omega) (by omega)
  have q6 := opv_bd 3 2 (opv 6 a b) (by omega) (by omega) (by omega) (by omega)
  have q7 := opv_bd 7 a b (by omega) (by omega) (by omega) (by omega)
  have q8 := opv_bd 9 1 k (by omega) (by omega) (by omega) (by omega)
  have q9 := opv_bd 2 4294967295 a (by omega) (by omega) (by omega) (by omega)
  have q10 := opv_bd 10 (opv 2 4294967295 a) k (by omega) (by omega) (by omega) (by omega)
  have q11 := opv_bd 13 a b (by omega) (by omega) (by omega) (by omega)
  have q12 := opv_bd 13 b a (by omega) (by omega) (by omega) (by omega)
  have q13 := opv_bd 14 a b (by omega) (by omega) (by omega) (by omega)
  have q14 := opv_bd 12 a b (by omega) (by omega) (by omega) (by omega)
  have q15 := opv_bd 12 b a (by omega) (by omega) (by omega) (by omega)
  have t1 := neq_f (l_sub a b h0 h1)
  have t2 := neq_f (l_div a b h0 h1 h2 h3)
  have t4 := neq_f (l_xor a b h0 h1 h2 h3)
  have t5 := neq_f (l_or a b h0 h1 h2 h3)
  have t6 := neq_f (l_shl a k k0 k1)
  have t7 := neq_f (l_shr a k k0 k1)
  have t8 := neq_f (l_round a k)
  have t3 : decide (b ≤ opv 5 a b) = false := decide_eq_false (by have := l_rem a b h2 h3 c0; omega)
  have t9 := l_high0 a ca
  have t10 := l_high1 b cb
  have t11 := neq_f (l_sar0 a k h0 h1 k0 k1 ca)
  have t12 := l_unlike0 a b h0 h1 h2 h3 ca cb
  have t13 : ((opv 13 a b + opv 13 b a + opv 14 a b) % 4294967296 == 1) = true := by rw [l_three a b]; rfl
  have t14 : ((opv 12 a b + opv 12 b a + opv 14 a b) % 4294967296 == 1) = true := by rw [l_threes a b h0 h1 h2 h3]; rfl
  have hkr : (n % 32 : Int) = k := hk
  clear hk
  go_enter Try.func5, Try.ntmps5
  go_wp2_with (first
    | (go_at_call 19; (with_reducible refine (op _ _ _ (by omega) (by omega) (by omega) (by omega) (by omega) (by omega) _).mono ?_); rintro e w1 ⟨rfl, hb⟩)
    | (go_at_call 18; (with_reducible refine (alive _).mono ?_); rintro e w1 ⟨rfl, hb⟩))
  go_ret
  exact ⟨rfl, by repeat (first | exact Below.refl _ _ | assumption | refine below_th (by assumption) ?_)⟩

set_option maxRecDepth 100000 in
set_option maxHeartbeats 1000000 in
theorem laws_10 (a b n k : Int) (hk : n % 32 = k) (h0 : 0 ≤ a) (h1 : a ≤ 4294967295) (h2 : 0 ≤ b) (h3 : b ≤ 4294967295) (n0 : 0 ≤ n) (n1 : n ≤ 255) (ca : 2147483648 ≤ a) (cb : b < 2147483648) (c0 : 0 < b) (w : World) :
    Calls Try.prog 5 #[.int .u32 a, .int .u32 b, .int .u8 n] w fun e w' => e = .returned (.bool true) ∧ Below w.heap.size w w' := by
  have k0 : 0 ≤ k := by omega
  have k1 : k ≤ 31 := by omega
  have q0 := opv_bd 1 a b (by omega) (by omega) (by omega) (by omega)
  have q1 := opv_bd 4 a b (by omega) (by omega) (by omega) (by omega)
  have q2 := opv_bd 3 (opv 4 a b) b (by omega) (by omega) (by omega) (by omega)
  have q3 := opv_bd 5 a b (by omega) (by omega) (by omega) (by omega)
  have q4 := opv_bd 8 a b (by omega) (by omega) (by omega) (by omega)
  have q5 := opv_bd 6 a b (by omega) (by omega) (by omega) (by omega)
  have q6 := opv_bd 3 2 (opv 6 a b) (by omega) (by omega) (by omega) (by omega)
  have q7 := opv_bd 7 a b (by omega) (by omega) (by omega) (by omega)
  have q8 := opv_bd 9 1 k (by omega) (by omega) (by omega) (by omega)
  have q9 := opv_bd 2 4294967295 a (by omega) (by omega) (by omega) (by omega)
  have q10 := opv_bd 10 (opv 2 4294967295 a) k (by omega) (by omega) (by omega) (by omega)
  have q11 := opv_bd 13 a b (by omega) (by omega) (by omega) (by omega)
  have q12 := opv_bd 13 b a (by omega) (by omega) (by omega) (by omega)
  have q13 := opv_bd 14 a b (by omega) (by omega) (by omega) (by omega)
  have q14 := opv_bd 12 a b (by omega) (by omega) (by omega) (by omega)
  have q15 := opv_bd 12 b a (by omega) (by omega) (by omega) (by omega)
  have t1 := neq_f (l_sub a b h0 h1)
  have t2 := neq_f (l_div a b h0 h1 h2 h3)
  have t4 := neq_f (l_xor a b h0 h1 h2 h3)
  have t5 := neq_f (l_or a b h0 h1 h2 h3)
  have t6 := neq_f (l_shl a k k0 k1)
  have t7 := neq_f (l_shr a k k0 k1)
  have t8 := neq_f (l_round a k)
  have t3 : decide (b ≤ opv 5 a b) = false := decide_eq_false (by have := l_rem a b h2 h3 c0; omega)
  have t9 := l_high1 a ca
  have t10 := l_high0 b cb
  have t11 := neq_f (l_sar1 a k h0 h1 k0 k1 ca)
  have t12 := l_unlike1 a b h0 h1 h2 h3 ca cb
  have t13 : ((opv 13 a b + opv 13 b a + opv 14 a b) % 4294967296 == 1) = true := by rw [l_three a b]; rfl
  have t14 : ((opv 12 a b + opv 12 b a + opv 14 a b) % 4294967296 == 1) = true := by rw [l_threes a b h0 h1 h2 h3]; rfl
  have hkr : (n % 32 : Int) = k := hk
  clear hk
  go_enter Try.func5, Try.ntmps5
  go_wp2_with (first
    | (go_at_call 19; (with_reducible refine (op _ _ _ (by omega) (by omega) (by omega) (by omega) (by omega) (by omega) _).mono ?_); rintro e w1 ⟨rfl, hb⟩)
    | (go_at_call 18; (with_reducible refine (alive _).mono ?_); rintro e w1 ⟨rfl, hb⟩))
  go_ret
  exact ⟨rfl, by repeat (first | exact Below.refl _ _ | assumption | refine below_th (by assumption) ?_)⟩

set_option maxRecDepth 100000 in
set_option maxHeartbeats 1000000 in
theorem laws_11 (a b n k : Int) (hk : n % 32 = k) (h0 : 0 ≤ a) (h1 : a ≤ 4294967295) (h2 : 0 ≤ b) (h3 : b ≤ 4294967295) (n0 : 0 ≤ n) (n1 : n ≤ 255) (ca : 2147483648 ≤ a) (cb : 2147483648 ≤ b) (c0 : 0 < b) (w : World) :
    Calls Try.prog 5 #[.int .u32 a, .int .u32 b, .int .u8 n] w fun e w' => e = .returned (.bool true) ∧ Below w.heap.size w w' := by
  have k0 : 0 ≤ k := by omega
  have k1 : k ≤ 31 := by omega
  have q0 := opv_bd 1 a b (by omega) (by omega) (by omega) (by omega)
  have q1 := opv_bd 4 a b (by omega) (by omega) (by omega) (by omega)
  have q2 := opv_bd 3 (opv 4 a b) b (by omega) (by omega) (by omega) (by omega)
  have q3 := opv_bd 5 a b (by omega) (by omega) (by omega) (by omega)
  have q4 := opv_bd 8 a b (by omega) (by omega) (by omega) (by omega)
  have q5 := opv_bd 6 a b (by omega) (by omega) (by omega) (by omega)
  have q6 := opv_bd 3 2 (opv 6 a b) (by omega) (by omega) (by omega) (by omega)
  have q7 := opv_bd 7 a b (by omega) (by omega) (by omega) (by omega)
  have q8 := opv_bd 9 1 k (by omega) (by omega) (by omega) (by omega)
  have q9 := opv_bd 2 4294967295 a (by omega) (by omega) (by omega) (by omega)
  have q10 := opv_bd 10 (opv 2 4294967295 a) k (by omega) (by omega) (by omega) (by omega)
  have q11 := opv_bd 13 a b (by omega) (by omega) (by omega) (by omega)
  have q12 := opv_bd 13 b a (by omega) (by omega) (by omega) (by omega)
  have q13 := opv_bd 14 a b (by omega) (by omega) (by omega) (by omega)
  have q14 := opv_bd 12 a b (by omega) (by omega) (by omega) (by omega)
  have q15 := opv_bd 12 b a (by omega) (by omega) (by omega) (by omega)
  have t1 := neq_f (l_sub a b h0 h1)
  have t2 := neq_f (l_div a b h0 h1 h2 h3)
  have t4 := neq_f (l_xor a b h0 h1 h2 h3)
  have t5 := neq_f (l_or a b h0 h1 h2 h3)
  have t6 := neq_f (l_shl a k k0 k1)
  have t7 := neq_f (l_shr a k k0 k1)
  have t8 := neq_f (l_round a k)
  have t3 : decide (b ≤ opv 5 a b) = false := decide_eq_false (by have := l_rem a b h2 h3 c0; omega)
  have t9 := l_high1 a ca
  have t10 := l_high1 b cb
  have t11 := neq_f (l_sar1 a k h0 h1 k0 k1 ca)
  have t12 := neq_f (l_same1 a b h0 h1 h2 h3 ca cb)
  have t13 : ((opv 13 a b + opv 13 b a + opv 14 a b) % 4294967296 == 1) = true := by rw [l_three a b]; rfl
  have t14 : ((opv 12 a b + opv 12 b a + opv 14 a b) % 4294967296 == 1) = true := by rw [l_threes a b h0 h1 h2 h3]; rfl
  have hkr : (n % 32 : Int) = k := hk
  clear hk
  go_enter Try.func5, Try.ntmps5
  go_wp2_with (first
    | (go_at_call 19; (with_reducible refine (op _ _ _ (by omega) (by omega) (by omega) (by omega) (by omega) (by omega) _).mono ?_); rintro e w1 ⟨rfl, hb⟩)
    | (go_at_call 18; (with_reducible refine (alive _).mono ?_); rintro e w1 ⟨rfl, hb⟩))
  go_ret
  exact ⟨rfl, by repeat (first | exact Below.refl _ _ | assumption | refine below_th (by assumption) ?_)⟩

theorem wordLaws (a b n : Int) (ha : (Lit.int .u32 a).wf = true) (hb : (Lit.int .u32 b).wf = true) (hn : (Lit.int .u8 n).wf = true) (w : World) :
    Calls Try.prog 5 #[.int .u32 a, .int .u32 b, .int .u8 n] w fun e w' => e = .returned (.bool true) ∧ Below w.heap.size w w' := by
  have a0 := bounds_u32 ha
  have b0 := bounds_u32 hb
  have n0 := bounds_u8 hn
  by_cases ca : a < 2147483648
  · by_cases hz : b = 0
    · exact laws_00z a b n _ rfl a0.1 a0.2 b0.1 b0.2 n0.1 n0.2 ca hz w
    · by_cases cb : b < 2147483648
      · exact laws_00 a b n _ rfl a0.1 a0.2 b0.1 b0.2 n0.1 n0.2 ca cb (by omega) w
      · exact laws_01 a b n _ rfl a0.1 a0.2 b0.1 b0.2 n0.1 n0.2 ca (by omega) (by omega) w
  · by_cases hz : b = 0
    · exact laws_10z a b n _ rfl a0.1 a0.2 b0.1 b0.2 n0.1 n0.2 (by omega) hz w
    · by_cases cb : b < 2147483648
      · exact laws_10 a b n _ rfl a0.1 a0.2 b0.1 b0.2 n0.1 n0.2 (by omega) cb (by omega) w
      · exact laws_11 a b n _ rfl a0.1 a0.2 b0.1 b0.2 n0.1 n0.2 (by omega) (by omega) (by omega) w
end Go.Proofs.Ytijdeljkppghbaa.Word
