/- Plain laws of the document's numerals: which digits make which number. -/
import Derived.Test.YtohlgcdailconaaGreatDoorScrN

namespace Go.Proofs.YtohlgcdailconaaGreatDoor.Scr
open Go.RowKit Lib
set_option linter.unusedVariables false
set_option linter.unusedSimpArgs false
def accT : Tx → Nat → Option Nat
  | [], n => some n
  | c :: r, n => if 48 ≤ c.toNat ∧ c.toNat ≤ 57 ∧ n ≤ 1844674407370955160 then accT r (10 * n + (c.toNat - 48)) else none
theorem acc_app : ∀ (l r : Tx) (n : Nat), accT (l ++ r) n = (accT l n).bind (accT r)
  | [], r, n => rfl
  | c :: l, r, n => by
    simp only [List.cons_append, accT]
    split
    · exact acc_app l r _
    · rfl
theorem acc_dec (u : Nat) (h : u ≤ 9223372036854775808) : accT (decDigits u) 0 = some u := by
  induction u using decDigits.induct with
  | case1 u h1 =>
    rw [decDigits, dif_pos h1]
    have := u8_of (48 + u) (by omega)
    simp only [accT]
    rw [this, if_pos (by omega)]
    congr 1
    omega
  | case2 u h1 ih =>
    rw [decDigits, dif_neg h1, acc_app, ih (by omega)]
    have := u8_of (48 + u % 10) (by omega)
    simp only [accT, Option.bind_some]
    rw [this, if_pos (by omega)]
    congr 1
    omega
theorem dec_len : ∀ (k u : Nat), u < 10 ^ (k + 1) → (decDigits u).length ≤ k + 1
  | 0, u, h => by rw [decDigits, dif_pos (by omega)]; simp
  | k + 1, u, h => by
    by_cases h1 : u < 10
    · rw [decDigits, dif_pos h1]; simp
    · rw [decDigits, dif_neg h1, List.length_append]
      have := dec_len k (u / 10) (by rw [Nat.pow_succ] at h; omega)
      simp
      omega
theorem dec_len19 (u : Nat) (h : u ≤ 9223372036854775808) : (decDigits u).length ≤ 19 := dec_len 18 u (by omega)
/-- The sign's place, and the digits behind it. -/
def fromT : Tx → Nat
  | c :: _ => if c = 45 then 1 else 0
  | [] => 0
def magT (t : Tx) : Tx := t.drop (fromT t)
theorem dec_from (u : Nat) : fromT (decDigits u) = 0 := by
  cases hd : decDigits u with
  | nil => rfl
  | cons c r =>
    have := dec_chars u c (by rw [hd]; simp)
    show (if c = 45 then 1 else 0) = 0
    rw [if_neg]
    intro e
    subst e
    revert this
    decide
theorem itoa_parts (v : Int) (h0 : -9223372036854775808 ≤ v) (h1 : v ≤ 9223372036854775807) : magT (itoa v) = decDigits v.natAbs ∧ fromT (itoa v) = (if v < 0 then 1 else 0) ∧ (itoa v).length ≤ 20 := by
  unfold itoa
  split
  · rename_i hn
    have := dec_len19 v.natAbs (by omega)
    exact ⟨rfl, rfl, by simp; omega⟩
  · rename_i hn
    have := dec_len19 v.natAbs (by omega)
    rw [show v.toNat = v.natAbs by omega]
    unfold magT
    rw [dec_from]
    exact ⟨rfl, rfl, by omega⟩
/-- What the digits come to, as a number with a sign. -/
def numV2 (t : Tx) (n : Nat) : Int := if fromT t = 1 then IntKind.i64.wrap (-IntKind.i64.wrap n) else IntKind.i64.wrap n
theorem numV2_bd (t : Tx) (n : Nat) : -9223372036854775808 ≤ numV2 t n ∧ numV2 t n ≤ 9223372036854775807 := by
  have hw : ∀ x : Int, -9223372036854775808 ≤ IntKind.i64.wrap x ∧ IntKind.i64.wrap x ≤ 9223372036854775807 := fun x => by
    simp only [IntKind.wrap_i64]
    omega
  unfold numV2
  split <;> exact hw _
theorem num_val {t : Tx} {v : Int} {n : Nat} (h : numT t = some v) (hn : accT (magT t) 0 = some n) : numV2 t n = v := by
  obtain ⟨rfl, h0, h1⟩ := num_back h
  obtain ⟨h2, h3, _⟩ := itoa_parts v h0 h1
  rw [h2, acc_dec _ (by omega)] at hn
  obtain rfl := Option.some.inj hn
  unfold numV2
  rw [h3]
  simp only [IntKind.wrap_i64]
  split <;> rename_i hv
  · rw [if_pos rfl]; omega
  · rw [if_neg (by decide)]; omega
theorem num_short {t : Tx} {v : Int} (h : numT t = some v) : t.length ≤ 20 ∧ magT t ≠ [] ∧ accT (magT t) 0 ≠ none := by
  obtain ⟨rfl, h0, h1⟩ := num_back h
  obtain ⟨h2, h3, h4⟩ := itoa_parts v h0 h1
  rw [h2, acc_dec _ (by omega)]
  exact ⟨h4, dec_ne _, by simp⟩
/-- What the document's number tells of a word. -/
def Nu (t : Tx) (v : Int) (b : Bool) : Prop := -9223372036854775808 ≤ v ∧ v ≤ 9223372036854775807 ∧ (b = true ∧ numT t = some v ∨ b = false ∧ numT t = none)
theorem nu_bad {t : Tx} (h : 20 < t.length ∨ magT t = [] ∨ accT (magT t) 0 = none) : Nu t 0 false := by
  refine ⟨by decide, by decide, .inr ⟨rfl, ?_⟩⟩
  cases hn : numT t with
  | none => rfl
  | some v =>
    obtain ⟨a, b, c⟩ := num_short hn
    rcases h with h | h | h
    · omega
    · exact absurd h b
    · exact absurd h c
theorem nu_some {t : Tx} {n : Nat} (h : accT (magT t) 0 = some n) : Nu t (numV2 t n) (itoa (numV2 t n) == t) := by
  have hb := numV2_bd t n
  refine ⟨hb.1, hb.2, ?_⟩
  by_cases he : itoa (numV2 t n) = t
  · refine .inl ⟨beq_iff_eq.2 he, ?_⟩
    conv => lhs; rw [← he]
    exact num_itoa _ hb.1 hb.2
  · refine .inr ⟨beq_eq_false_iff_ne.2 he, ?_⟩
    cases hn : numT t with
    | none => rfl
    | some v => exact absurd (by rw [num_val hn h]; exact (num_back hn).1) he
end Go.Proofs.YtohlgcdailconaaGreatDoor.Scr
