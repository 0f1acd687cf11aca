/- Turns by strides, in plain numbers: what SchedFair asks besides. -/
import Derived.Test.YthgddpgifdhnjaaGreatSnSchB
namespace Go.Proofs.YthgddpgifdhnjaaGreat.Sc
theorem sd_mul {v : Nat} (h0 : 1 ≤ v) (h1 : v ≤ 16) : sd v * v = 720720 := by
  have : v = 1 ∨ v = 2 ∨ v = 3 ∨ v = 4 ∨ v = 5 ∨ v = 6 ∨ v = 7 ∨ v = 8 ∨ v = 9 ∨ v = 10 ∨ v = 11 ∨ v = 12 ∨ v = 13 ∨ v = 14 ∨ v = 15 ∨ v = 16 := by omega
  unfold sd
  rcases this with rfl | rfl | rfl | rfl | rfl | rfl | rfl | rfl | rfl | rfl | rfl | rfl | rfl | rfl | rfl | rfl <;> rfl
theorem pick_le (p : Nat → Nat) : ∀ k, pick p k ≤ k
  | 0 => Nat.le_refl _
  | k + 1 => by
    unfold pick
    split
    · exact Nat.le_refl _
    · exact Nat.le_succ_of_le (pick_le p k)
def Inv (m : Nat) (w c : Nat → Nat) : Prop := ∀ i j, i < m → j < m → 1 ≤ c i → (c i - 1) * sd (w i) ≤ c j * sd (w j)
theorem Inv.zero (m : Nat) (w : Nat → Nat) : Inv m w fun _ => 0 := fun i j _ _ h => absurd (show 1 ≤ 0 from h) (by decide)
theorem Inv.bump {m : Nat} {w c : Nat → Nat} (h : Inv m w c) {i : Nat} (hi : ∀ j, j < m → c i * sd (w i) ≤ c j * sd (w j)) : Inv m w (bump c i) := fun a b ha hb h1 => by
  unfold Sc.bump at h1 ⊢
  have hmono : c b * sd (w b) ≤ (if b = i then c b + 1 else c b) * sd (w b) := Nat.mul_le_mul_right _ (by split <;> omega)
  by_cases e : a = i
  · subst e
    rw [if_pos rfl, Nat.add_sub_cancel]
    exact Nat.le_trans (hi b hb) hmono
  · rw [if_neg e] at h1 ⊢
    exact Nat.le_trans (h a b ha hb h1) hmono
theorem Inv.used {m : Nat} {w c : Nat → Nat} (h : Inv m w c) (hw : ∀ i, i < m → 1 ≤ w i ∧ w i ≤ 16) {a b : Nat} (ha : a < m) (hb : b < m) : (c a : Int) * w b - c b * w a ≤ w b := by
  rcases Nat.eq_zero_or_pos (c a) with e | e
  · rw [e]
    have : (0 : Int) ≤ (c b : Int) * w a := by exact_mod_cast Nat.zero_le (c b * w a)
    omega
  · have h1 := h a b ha hb e
    have ea := sd_mul (hw a ha).1 (hw a ha).2
    have eb := sd_mul (hw b hb).1 (hw b hb).2
    have h2 := Nat.mul_le_mul_right (w a * w b) h1
    have e1 : (c a - 1) * sd (w a) * (w a * w b) = (c a - 1) * w b * 720720 := by
      rw [← ea]; ac_rfl
    have e2 : c b * sd (w b) * (w a * w b) = c b * w a * 720720 := by
      rw [← eb]; ac_rfl
    rw [e1, e2] at h2
    have h3 : (c a - 1) * w b ≤ c b * w a := Nat.le_of_mul_le_mul_right h2 (by decide)
    obtain ⟨k, hk⟩ : ∃ k, c a = k + 1 := ⟨c a - 1, by omega⟩
    rw [hk] at h3 ⊢
    rw [Nat.add_sub_cancel] at h3
    have h4 : (k : Int) * w b ≤ c b * w a := by exact_mod_cast h3
    have h5 : ((k + 1 : Nat) : Int) * w b = k * w b + w b := by rw [Int.natCast_add, Int.add_mul]; simp
    omega
theorem since {m : Nat} {w c s : Nat → Nat} (h : Inv m w c) (hw : ∀ i, i < m → 1 ≤ w i ∧ w i ≤ 16) {a j : Nat} (ha : a < m) (hj : j < m) (hs : 1 ≤ c a → (c a - 1) * sd (w a) ≤ s j * sd (w j)) (hle : s j ≤ c j) : c j ≤ s j + 17 := by
  rcases Nat.eq_zero_or_pos (c j) with e | e
  · omega
  have ea := sd_mul (hw a ha).1 (hw a ha).2
  have ej := sd_mul (hw j hj).1 (hw j hj).2
  have h1 := h j a hj ha e
  have h2 : c a * sd (w a) ≤ s j * sd (w j) + sd (w a) := by
    rcases Nat.eq_zero_or_pos (c a) with q | q
    · rw [q]; omega
    · have := hs q
      obtain ⟨k, hk⟩ : ∃ k, c a = k + 1 := ⟨c a - 1, by omega⟩
      rw [hk] at this ⊢
      rw [Nat.add_sub_cancel] at this
      rw [Nat.add_mul]
      omega
  have h3 : sd (w a) ≤ 16 * sd (w j) := by
    have e16 : sd (w j) * 16 ≥ 720720 := by rw [← ej]; exact Nat.mul_le_mul_left _ (hw j hj).2
    have : sd (w a) ≤ 720720 := by rw [← ea]; exact Nat.le_mul_of_pos_right _ (hw a ha).1
    omega
  have hp : 0 < sd (w j) := by
    rcases Nat.eq_zero_or_pos (sd (w j)) with q | q
    · rw [q] at ej; omega
    · exact q
  have h4 : (c j - 1) * sd (w j) ≤ (s j + 16) * sd (w j) := by rw [Nat.add_mul]; omega
  have := Nat.le_of_mul_le_mul_right h4 hp
  omega
def tot (f : Nat → Nat) : Nat → Nat
  | 0 => 0
  | m + 1 => tot f m + f m
theorem tot_bump (c : Nat → Nat) (i : Nat) : ∀ m, tot (bump c i) m = tot c m + if i < m then 1 else 0
  | 0 => by simp [tot]
  | m + 1 => by
    unfold tot
    rw [tot_bump c i m]
    unfold bump
    by_cases e : m = i
    · subst e
      rw [if_pos rfl, if_neg (Nat.lt_irrefl _), if_pos (Nat.lt_succ_self _)]
      omega
    · rw [if_neg e]
      by_cases q : i < m
      · rw [if_pos q, if_pos (Nat.lt_succ_of_lt q)]; omega
      · rw [if_neg q, if_neg (by omega)]; omega
theorem tot_le {f g : Nat → Nat} {d : Nat} : ∀ m, (∀ j, j < m → f j ≤ g j + d) → tot f m ≤ tot g m + m * d
  | 0, _ => by simp [tot]
  | m + 1, h => by
    have h1 := tot_le m fun j hj => h j (by omega)
    have h2 := h m (by omega)
    unfold tot
    rw [Nat.add_mul, Nat.one_mul]
    omega
theorem tot_mono {f g : Nat → Nat} : ∀ m, (∀ j, j < m → f j ≤ g j) → tot f m ≤ tot g m
  | 0, _ => Nat.le_refl _
  | m + 1, h => by
    have h1 := tot_mono m fun j hj => h j (by omega)
    have h2 := h m (by omega)
    unfold tot
    omega
variable {m : Nat} {wt : Nat → Nat} {sl : Nat}
theorem who_lt (h : 0 < m) (k : Nat) : who m wt sl k < m := by have := pick_le (fun i => cs m wt sl k i * sl * sd (wt i)) (m - 1); unfold who; omega
theorem who_min (h1 : 1 ≤ sl) (k j : Nat) (hj : j < m) : cs m wt sl k (who m wt sl k) * sd (wt (who m wt sl k)) ≤ cs m wt sl k j * sd (wt j) := by
  have h := pick_min (fun i => cs m wt sl k i * sl * sd (wt i)) (m - 1) j (by omega)
  have h : cs m wt sl k (who m wt sl k) * sl * sd (wt (who m wt sl k)) ≤ cs m wt sl k j * sl * sd (wt j) := h
  rw [Nat.mul_right_comm, Nat.mul_right_comm _ sl] at h
  exact Nat.le_of_mul_le_mul_right h h1
theorem cs_mono {k l : Nat} (h : k ≤ l) (i : Nat) : cs m wt sl k i ≤ cs m wt sl l i := by
  induction l with
  | zero => rw [show k = 0 by omega]; exact Nat.le_refl _
  | succ l ih =>
    rcases Nat.lt_or_ge k (l + 1) with q | q
    · refine Nat.le_trans (ih (by omega)) ?_
      rw [cs_succ]
      unfold bump
      split <;> omega
    · rw [show k = l + 1 by omega]; exact Nat.le_refl _
theorem cs_inv (h1 : 1 ≤ sl) (k : Nat) : Inv m wt (cs m wt sl k) := by
  induction k with
  | zero => exact Inv.zero m wt
  | succ k ih => exact ih.bump fun j hj => who_min h1 k j hj
theorem cs_tot (hm : 0 < m) (k : Nat) : tot (cs m wt sl k) m = k := by
  induction k with
  | zero =>
    have : ∀ n, tot (fun _ => 0) n = 0 := fun n => by
      induction n with
      | zero => rfl
      | succ n ih => unfold tot; rw [ih]
    exact this m
  | succ k ih => rw [cs_succ, tot_bump, ih, if_pos (who_lt hm k)]
def last (m : Nat) (wt : Nat → Nat) (sl : Nat) : Nat → Nat → Nat
  | 0 => fun _ => 0
  | k + 1 => fun a => if a = who m wt sl k then k + 1 else last m wt sl k a
theorem last_le (k a : Nat) : last m wt sl k a ≤ k := by
  induction k with
  | zero => exact Nat.le_refl _
  | succ k ih =>
    unfold last
    split <;> omega
theorem last_spec (k a : Nat) : cs m wt sl k a = cs m wt sl (last m wt sl k a) a ∧ (∀ l, last m wt sl k a = l + 1 → who m wt sl l = a) ∧ (last m wt sl k a = 0 → cs m wt sl k a = 0) := by
  induction k with
  | zero => exact ⟨rfl, fun l h => by unfold last at h; omega, fun _ => rfl⟩
  | succ k ih =>
    obtain ⟨i1, i2, i3⟩ := ih
    by_cases e : a = who m wt sl k
    · have hl : last m wt sl (k + 1) a = k + 1 := by unfold last; rw [if_pos e]
      rw [hl]
      refine ⟨rfl, fun l h => ?_, fun h => by omega⟩
      rw [show l = k by omega]
      exact e.symm
    · have hl : last m wt sl (k + 1) a = last m wt sl k a := by
        show (if a = who m wt sl k then k + 1 else last m wt sl k a) = _
        rw [if_neg e]
      have hc : cs m wt sl (k + 1) a = cs m wt sl k a := by
        rw [cs_succ]
        unfold bump
        rw [if_neg e]
      rw [hl, hc]
      exact ⟨i1, i2, i3⟩
theorem waits (hm : 0 < m) (h1 : 1 ≤ sl) (hw : ∀ i, i < m → 1 ≤ wt i ∧ wt i ≤ 16) (k a : Nat) (ha : a < m) : k ≤ last m wt sl k a + m * 17 := by
  obtain ⟨l1, l2, l3⟩ := last_spec (m := m) (wt := wt) (sl := sl) k a
  have hle := last_le (m := m) (wt := wt) (sl := sl) k a
  have key : ∀ j, j < m → cs m wt sl k j ≤ cs m wt sl (last m wt sl k a) j + 17 := fun j hj => by
    refine since (cs_inv h1 k) hw ha hj (fun hc => ?_) (cs_mono hle j)
    cases hl : last m wt sl k a with
    | zero => have := l3 hl; omega
    | succ l =>
      have hwho := l2 l hl
      rw [l1, hl, cs_succ]
      unfold bump
      rw [if_pos hwho.symm, Nat.add_sub_cancel]
      have := who_min (wt := wt) (m := m) h1 l j hj
      rw [hwho] at this
      refine Nat.le_trans this (Nat.mul_le_mul_right _ ?_)
      split <;> omega
  have h2 := tot_le m key
  rw [cs_tot hm, cs_tot hm] at h2
  omega
theorem parts (h1 : 1 ≤ sl) (hw : ∀ i, i < m → 1 ≤ wt i ∧ wt i ≤ 16) (k : Nat) {a b : Nat} (ha : a < m) (hb : b < m) :
    ((cs m wt sl k a * sl : Nat) : Int) * wt b - ((cs m wt sl k b * sl : Nat) : Int) * wt a ≤ 2 * sl * wt a * wt b := by
  have h := (cs_inv (wt := wt) (m := m) h1 k).used hw ha hb
  have h2 := Int.mul_le_mul_of_nonneg_left h (show (0 : Int) ≤ sl by omega)
  have e1 : (sl : Int) * ((cs m wt sl k a : Int) * wt b - cs m wt sl k b * wt a) = ((cs m wt sl k a * sl : Nat) : Int) * wt b - ((cs m wt sl k b * sl : Nat) : Int) * wt a := by
    rw [Int.mul_sub, Int.natCast_mul, Int.natCast_mul]
    congr 1 <;> ac_rfl
  rw [e1] at h2
  refine Int.le_trans h2 ?_
  have hwa := (hw a ha).1
  have h3 : sl * wt b ≤ 2 * sl * wt a * wt b := by
    have : sl * 1 ≤ (2 * sl) * wt a := Nat.mul_le_mul (by omega) hwa
    have := Nat.mul_le_mul_right (wt b) this
    rw [Nat.mul_one] at this
    exact this
  exact_mod_cast h3
end Go.Proofs.YthgddpgifdhnjaaGreat.Sc
