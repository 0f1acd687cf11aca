/- Plain laws of lines and words. -/
import Derived.Test.YtohlgcdailconaaGreatDoorScr
import Derived.Lib.SplitLaws
namespace Go.Proofs.YtohlgcdailconaaGreatDoor.Scr
open Go.RowKit Lib
set_option linter.unusedVariables false
/-- A text cut at each byte c. -/
def spl (c : UInt8) : Tx → List Tx
  | [] => [[]]
  | b :: r => if b = c then [] :: spl c r else match spl c r with | x :: xs => (b :: x) :: xs | [] => [[b]]
theorem spl_ne (c : UInt8) (t : Tx) : spl c t ≠ [] := by
  cases t with
  | nil => simp [spl]
  | cons b r =>
    unfold spl
    split
    · simp
    · split <;> simp
theorem index_cons_eq (c : UInt8) (r : Tx) : Lib.index (c :: r) [c] = 0 := by simp [Lib.index, List.isPrefixOf]
theorem index_cons_ne (b c : UInt8) (r : Tx) (h : b ≠ c) : Lib.index (b :: r) [c] = if Lib.index r [c] == -1 then -1 else Lib.index r [c] + 1 := by
  have : (c == b) = false := beq_eq_false_iff_ne.2 fun e => h e.symm
  simp [Lib.index, List.isPrefixOf, this]
theorem count_zero_of {c : UInt8} {r : Tx} (h : Lib.index r [c] = -1) : Lib.count r [c] = 0 := by
  unfold Lib.count Lib.countFrom
  rw [h]
  rfl
theorem splitK_spl (c : UInt8) : ∀ t : Tx, splitK [c] 0 (Lib.count t [c]) t = spl c t
  | [] => rfl
  | b :: r => by
    have ih := splitK_spl c r
    by_cases hb : b = c
    · subst hb
      rw [count_cons_eq, Nat.add_comm]
      unfold splitK
      rw [index_cons_eq]
      show (([] : Tx) :: splitK [b] 0 (Lib.count r [b]) (List.drop (0 + 1) (b :: r))) = _
      rw [show List.drop (0 + 1) (b :: r) = r from rfl, ih]
      simp [spl]
    · rw [count_cons_ne b c r hb]
      cases hk : Lib.count r [c] with
      | zero =>
        rw [hk] at ih
        have : spl c r = [r] := ih.symm
        simp [splitK, spl, hb, this]
      | succ k =>
        rw [hk] at ih
        have hi : ¬ (Lib.index r [c] == -1) = true := fun e => by
          have := count_zero_of (beq_iff_eq.1 e)
          omega
        have h0 : 0 ≤ Lib.index r [c] := by
          have := Lib.index_ge r [c]
          have : Lib.index r [c] ≠ -1 := fun e => hi (beq_iff_eq.2 e)
          omega
        unfold splitK at ih ⊢
        rw [if_neg hi] at ih
        rw [index_cons_ne b c r hb, if_neg hi]
        have h1 : ¬ (Lib.index r [c] + 1 == -1) = true := fun e => by have := beq_iff_eq.1 e; omega
        rw [if_neg h1]
        have h2 : (Lib.index r [c] + 1).toNat = (Lib.index r [c]).toNat + 1 := by omega
        rw [h2]
        unfold spl
        rw [if_neg hb, ← ih]
        rfl
theorem split_spl (c : UInt8) (t : Tx) : Lib.split t [c] = spl c t := splitK_spl c t
theorem spl_lens (c : UInt8) : ∀ t : Tx, (∀ x, x ∈ spl c t → x.length ≤ t.length) ∧ (spl c t).length ≤ t.length + 1
  | [] => ⟨by simp [spl], by simp [spl]⟩
  | b :: r => by
    obtain ⟨h1, h2⟩ := spl_lens c r
    unfold spl
    split
    · refine ⟨fun x hx => ?_, by simp; omega⟩
      rcases List.mem_cons.1 hx with rfl | hx
      · simp
      · have := h1 x hx; simp; omega
    · split
      · rename_i y ys he
        rw [he] at h1 h2
        refine ⟨fun x hx => ?_, by simp at h2 ⊢; omega⟩
        rcases List.mem_cons.1 hx with rfl | hx
        · have := h1 y (by simp); simp; omega
        · have := h1 x (by simp [hx]); simp; omega
      · exact ⟨by simp, by simp⟩
theorem words_lens {t : Tx} {l : List Tx} (h : wordsT t = some l) : (∀ x, x ∈ l → x.length ≤ t.length) ∧ l.length ≤ t.length + 1 := by
  unfold wordsT at h
  split at h
  · cases h
  · cases h
    rw [split_spl]
    exact spl_lens 32 t
theorem words_ne {t : Tx} {l : List Tx} (h : wordsT t = some l) : l ≠ [] := by
  unfold wordsT at h
  split at h
  · cases h
  · cases h
    rw [split_spl]
    exact spl_ne 32 t
/-- Where the first c is. -/
theorem spl_cut (c : UInt8) : ∀ t : Tx, (Lib.index t [c] = -1 ∧ spl c t = [t]) ∨ ∃ i : Nat, Lib.index t [c] = i ∧ i < t.length ∧ spl c t = t.take i :: spl c (t.drop (i + 1))
  | [] => .inl ⟨rfl, rfl⟩
  | b :: r => by
    by_cases hb : b = c
    · subst hb
      exact .inr ⟨0, index_cons_eq b r, by simp, by simp [spl]⟩
    · rcases spl_cut c r with ⟨h1, h2⟩ | ⟨i, h1, h2, h3⟩
      · left
        refine ⟨by rw [index_cons_ne b c r hb, h1]; rfl, by simp [spl, hb, h2]⟩
      · right
        refine ⟨i + 1, ?_, by simp; omega, ?_⟩
        · rw [index_cons_ne b c r hb, h1]
          have : ¬ ((i : Int) == -1) = true := fun e => by have := beq_iff_eq.1 e; omega
          rw [if_neg this]
          rfl
        · simp [spl, hb, h3]
end Go.Proofs.YtohlgcdailconaaGreatDoor.Scr
