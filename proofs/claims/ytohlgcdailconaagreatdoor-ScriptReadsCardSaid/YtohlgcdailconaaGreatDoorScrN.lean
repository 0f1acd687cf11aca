/- Plain laws of numerals and of hex. -/
import Derived.Test.YtohlgcdailconaaGreatDoorScr
namespace Go.Proofs.YtohlgcdailconaaGreatDoor.Scr
open Go.RowKit Lib Go.Proofs.YtohlgcdailconaaGreatDoor.Word
set_option linter.unusedVariables false
def wchar (c : UInt8) : Prop := c ≠ 10 ∧ c ≠ 32
theorem u8_of (n : Nat) (h : n < 256) : (UInt8.ofNat n).toNat = n := by simp [Nat.mod_eq_of_lt h]
theorem dec_chars (u : Nat) : ∀ c, c ∈ decDigits u → 48 ≤ c.toNat ∧ c.toNat ≤ 57 := by
  induction u using decDigits.induct with
  | case1 u h =>
    intro c hc
    rw [decDigits, dif_pos h] at hc
    rw [List.mem_singleton] at hc
    subst hc
    have := u8_of (48 + u) (by omega)
    omega
  | case2 u h ih =>
    intro c hc
    rw [decDigits, dif_neg h] at hc
    rcases List.mem_append.1 hc with hc | hc
    · exact ih c hc
    · simp only [List.mem_singleton] at hc
      subst hc
      have := u8_of (48 + u % 10) (by omega)
      omega
theorem dec_ne (u : Nat) : decDigits u ≠ [] := by
  rw [decDigits]
  split
  · simp
  · simp
theorem parse_app : ∀ (l : List UInt8) (acc : Nat) (r : List UInt8) (v : Nat), parseUint10 acc l = .ok v → parseUint10 acc (l ++ r) = parseUint10 v r
  | [], acc, r, v, h => by
    simp only [parseUint10] at h
    injection h with h
    subst h
    rfl
  | c :: l, acc, r, v, h => by
    simp only [parseUint10, List.cons_append] at h ⊢
    split at h
    · rename_i h1
      rw [if_pos h1]
      split at h
      · cases h
      · rename_i h2
        rw [if_neg h2]
        split at h
        · cases h
        · rename_i h3
          rw [if_neg h3]
          exact parse_app l _ r v h
    · cases h
theorem parse_dec (u : Nat) (hu : u < 18446744073709551616) : parseUint10 0 (decDigits u) = .ok u := by
  induction u using decDigits.induct with
  | case1 u h =>
    rw [decDigits, dif_pos h]
    have := u8_of (48 + u) (by omega)
    simp only [parseUint10]
    rw [this, if_pos (by omega), if_neg (by omega), if_neg (by omega)]
    congr 1
    omega
  | case2 u h ih =>
    rw [decDigits, dif_neg h, parse_app _ _ _ _ (ih (by omega))]
    have := u8_of (48 + u % 10) (by omega)
    simp only [parseUint10]
    rw [this, if_pos (by omega), if_neg (by omega), if_neg (by omega)]
    congr 1
    omega
theorem atoi_itoa (v : Int) (h0 : -9223372036854775808 ≤ v) (h1 : v ≤ 9223372036854775807) : atoiAll (itoa v) = .ok v := by
  unfold itoa
  split
  · rename_i hn
    have hp := parse_dec v.natAbs (by omega)
    unfold atoiAll
    simp only []
    rw [show ((45 : UInt8).toNat) = 45 from rfl, if_pos (Or.inr rfl)]
    unfold parseMag
    rw [if_neg (dec_ne _), hp]
    simp only []
    rw [if_neg (by simp), if_neg (by simp; omega), if_pos trivial]
    congr 1
    omega
  · rename_i hn
    have hp := parse_dec v.toNat (by omega)
    cases hd : decDigits v.toNat with
    | nil => exact absurd hd (dec_ne _)
    | cons c r =>
      have hc := dec_chars v.toNat c (by rw [hd]; simp)
      unfold atoiAll
      simp only []
      have hs : ¬ (c.toNat = 43 ∨ c.toNat = 45) := by omega
      rw [if_neg hs]
      unfold parseMag
      rw [if_neg (by simp), ← hd, hp]
      simp only []
      have hne : ¬ c.toNat = 45 := by omega
      rw [if_neg (fun e => by have := e.2; omega), if_neg (fun e => hne e.1), if_neg hne]
      congr 1
      omega
theorem num_itoa (v : Int) (h0 : -9223372036854775808 ≤ v) (h1 : v ≤ 9223372036854775807) : numT (itoa v) = some v := by
  unfold numT
  rw [atoi_itoa v h0 h1]
  simp
theorem num_back {t : Tx} {v : Int} (h : numT t = some v) : itoa v = t ∧ -9223372036854775808 ≤ v ∧ v ≤ 9223372036854775807 := by
  unfold numT at h
  cases ha : atoiAll t with
  | ok u =>
    rw [ha] at h
    simp only at h
    split at h
    · rename_i hi
      cases h
      refine ⟨hi, ?_⟩
      unfold atoiAll at ha
      split at ha
      · cases ha
      · simp only [] at ha
        split at ha
        · cases ha
        · cases ha
        · split at ha
          · cases ha
          · split at ha
            · cases ha
            · injection ha with ha
              subst ha
              rename_i h1 h2
              split
              · rename_i hneg
                exact ⟨by have : ¬ _ := fun e => h2 ⟨hneg, e⟩; omega, by omega⟩
              · rename_i hneg
                exact ⟨by omega, by have : ¬ _ := fun e => h1 ⟨hneg, e⟩; omega⟩
    · cases h
  | _ => rw [ha] at h; cases h
theorem itoa_word (v : Int) : itoa v ≠ [] ∧ ∀ c, c ∈ itoa v → wchar c := by
  have hd : ∀ u c, c ∈ decDigits u → wchar c := fun u c hc => by
    have := dec_chars u c hc
    exact ⟨fun e => by subst e; simp at this, fun e => by subst e; simp at this⟩
  unfold itoa
  split
  · refine ⟨by simp, fun c hc => ?_⟩
    rcases List.mem_cons.1 hc with rfl | hc
    · exact ⟨by decide, by decide⟩
    · exact hd _ c hc
  · exact ⟨dec_ne _, hd _⟩
theorem hexD_bd {x : Int} (h0 : 0 ≤ x) (h1 : x < 16) : halfB (hexD x) = true ∧ halfV (hexD x) = x := by
  unfold halfB halfV hexD
  split
  · exact ⟨by simp; omega, by rw [if_pos (by omega)]; omega⟩
  · exact ⟨by simp; omega, by rw [if_neg (by omega), if_pos (by omega)]; omega⟩
theorem unhexL_hexL : ∀ l : List Int, (∀ x, x ∈ l → 0 ≤ x ∧ x < 256) → unhexL (hexL l) = some l
  | [], _ => rfl
  | x :: r, h => by
    have hx := h x (by simp)
    obtain ⟨a, b⟩ := hexD_bd (x := x / 16) (by omega) (by omega)
    obtain ⟨c, d⟩ := hexD_bd (x := x % 16) (by omega) (by omega)
    simp only [hexL, unhexL, a, c, b, d, Bool.and_self, if_true]
    rw [unhexL_hexL r fun y hy => h y (by simp [hy])]
    simp
    omega
theorem hexD_half {c : Int} (h : halfB c = true) : hexD (halfV c) = c ∧ 0 ≤ halfV c ∧ halfV c < 16 := by
  unfold halfB at h
  simp at h
  unfold halfV hexD
  rcases h with h | h
  · rw [if_pos h, if_pos (by omega)]; omega
  · rw [if_neg (by omega), if_pos h, if_neg (by omega)]; omega
theorem hexL_unhexL (l r : List Int) (h : unhexL l = some r) : hexL r = l ∧ ∀ x, x ∈ r → 0 ≤ x ∧ x < 256 := by
  induction l using unhexL.induct generalizing r with
  | case1 => cases h; exact ⟨rfl, by simp⟩
  | case2 x => cases h
  | case3 x y l hb ih =>
    simp only [unhexL, hb, if_true] at h
    obtain ⟨t, ht, rfl⟩ := Option.map_eq_some_iff.1 h
    obtain ⟨i1, i2⟩ := ih t ht
    simp only [Bool.and_eq_true] at hb
    obtain ⟨a, a0, a1⟩ := hexD_half hb.1
    obtain ⟨b, b0, b1⟩ := hexD_half hb.2
    refine ⟨?_, fun z hz => ?_⟩
    · simp only [hexL]
      rw [show (16 * halfV x + halfV y) / 16 = halfV x by omega, show (16 * halfV x + halfV y) % 16 = halfV y by omega, a, b, i1]
    · rcases List.mem_cons.1 hz with rfl | hz
      · omega
      · exact i2 z hz
  | case4 x y l hb => simp only [unhexL, hb] at h; cases h
theorem nums_tx (t : Tx) : nums ⟨t.toArray⟩ = t.map fun b => (b.toNat : Int) := rfl
theorem hexL_bd : ∀ l : List Int, (∀ x, x ∈ l → 0 ≤ x ∧ x < 256) → ∀ y, y ∈ hexL l → (48 ≤ y ∧ y ≤ 57) ∨ (97 ≤ y ∧ y ≤ 102)
  | [], _, y, hy => by cases hy
  | x :: r, h, y, hy => by
    have hx := h x (by simp)
    simp only [hexL, List.mem_cons] at hy
    rcases hy with rfl | rfl | hy
    · unfold hexD; split <;> omega
    · unfold hexD; split <;> omega
    · exact hexL_bd r (fun z hz => h z (by simp [hz])) y hy
theorem unhex_hex (t : Tx) : unhexT (hexT t) = some t := by
  unfold unhexT hexT
  have hb := nums_bd ⟨t.toArray⟩
  have e : nums ⟨(strOfNums (hexL (nums ⟨t.toArray⟩))).data.toList.toArray⟩ = hexL (nums ⟨t.toArray⟩) := by
    show nums (strOfNums (hexL (nums ⟨t.toArray⟩))) = _
    exact nums_strOfNums _ fun x hx => by have := hexL_bd _ hb x hx; omega
  rw [e, unhexL_hexL _ hb]
  simp only [Option.map_some, Option.some.injEq]
  rw [strOfNums_nums]
theorem hex_unhex {t b : Tx} (h : unhexT t = some b) : hexT b = t := by
  unfold unhexT at h
  obtain ⟨l, hl, rfl⟩ := Option.map_eq_some_iff.1 h
  obtain ⟨h1, h2⟩ := hexL_unhexL _ _ hl
  unfold hexT
  have e : nums ⟨(strOfNums l).data.toList.toArray⟩ = l := nums_strOfNums l h2
  rw [e, h1, strOfNums_nums]
theorem hex_chars (t : Tx) : ∀ c, c ∈ hexT t → wchar c := by
  intro c hc
  unfold hexT at hc
  rw [strOfNums_data] at hc
  obtain ⟨x, hx, rfl⟩ := List.mem_map.1 hc
  have := hexL_bd _ (nums_bd _) x hx
  have e := u8_of x.toNat (by omega)
  have e2 : (UInt8.ofNat x.toNat).toNat = x.toNat := e
  constructor
  · intro h10
    rw [h10] at e2
    simp at e2
    omega
  · intro h10
    rw [h10] at e2
    simp at e2
    omega
theorem bytes_hex (t : Tx) : bytesT (120 :: hexT t) = some t := by
  show (if (120 : UInt8) = 120 then unhexT (hexT t) else none) = _
  rw [if_pos rfl]
  exact unhex_hex t
theorem bytes_back {t b : Tx} (h : bytesT t = some b) : t = 120 :: hexT b := by
  unfold bytesT at h
  split at h
  · cases h
  · split at h
    · rename_i c r hc
      subst hc
      rw [hex_unhex h]
    · cases h
end Go.Proofs.YtohlgcdailconaaGreatDoor.Scr
