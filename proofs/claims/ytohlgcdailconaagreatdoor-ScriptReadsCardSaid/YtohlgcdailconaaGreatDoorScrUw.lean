/- The walks of the document's digits, Number, number, words. -/
import Derived.Test.YtohlgcdailconaaGreatDoorScrU
import Derived.Test.YtohlgcdailconaaGreatDoorScrA
namespace Go.Proofs.YtohlgcdailconaaGreatDoor.Scr
open Go.RowKit Lib
set_option linter.unusedVariables false
set_option linter.unusedSimpArgs false
namespace R32
theorem one_str (w : World) (c : Int) (h0 : 0 ≤ c) (h1 : c < 256) (ch : UInt8) (hch : UInt8.ofNat c.toNat = ch) : (convert 46 9 (.slice (some ⟨w.heap.size, 0, none⟩) 1 1)).run Tryz.prog (w.alloc (.cells #[.int .u8 c] 5)) = .ok (.string ⟨#[ch]⟩) (w.alloc (.cells #[.int .u8 c] 5)) := by
  have hb : Buf (w.alloc (.cells #[.int .u8 c] 5)) w.heap.size 5 (.slice (some ⟨w.heap.size, 0, none⟩) 1 1) [c] :=
    ⟨rfl, .inr ⟨w.heap.size, 1, #[.int .u8 c], rfl, Nat.le_refl _, heap_alloc_new w _, Nat.le_refl _, by unfold maxLen; decide, rfl, rfl⟩⟩
  subst hch
  exact Buf.string hb _ _ Tryz.underlying46 Tryz.underlying5 Tryz.underlying9
def digRelU (u : Nat) (W : World) (vs vn : Value) (wr : World) : Prop := ∃ (k : Nat) (l : Tx), vn = .int .u64 k ∧ vs = str l ∧ decDigits k ++ l = decDigits u ∧ k ≤ u ∧ Below W.heap.size W wr
def DigP (u : Nat) (w : World) (e : Ending) (w' : World) : Prop := e = .returned (str (decDigits u)) ∧ Below w.heap.size w w'
theorem digits (u : Nat) (hu : u ≤ 9223372036854775808) (w : World) : Calls Tryz.prog 36 #[.int .u64 u] w (DigP u w) := by
  have HL := Lib.hid (dec_len19 u hu)
  have HFin := Lib.hid fun V (hb : Below w.heap.size w V) l (hl : l = decDigits u) => (show DigP u w (.returned (.string ⟨l.toArray⟩)) V from ⟨by rw [hl]; rfl, hb⟩)
  generalize DigP u w = PQ at *
  go_enter Tryz.func36, Tryz.ntmps36
  go_wp2
  go_loopw [3, 0] (fun vs vn wr => digRelU u w vs vn wr) (fun _ vn _ => (RowKit.intOf vn).toNat)
  case atStart => exact ⟨u, [], rfl, rfl, by simp, Nat.le_refl _, Below.refl _ _⟩
  case round =>
    obtain ⟨k, l, rfl, rfl, hl, hk, hb⟩ := hrel
    have HB := Lib.hid hb
    have hs := hb.size
    have hll : 1 + l.length ≤ 9223372036854775807 := by have := HL.out; rw [← hl, List.length_append] at this; omega
    clear hb
    unfold str
    by_cases h9 : k < 10
    · have hk0 : (k : Int) < 10 := by omega
      have hk1 : ¬ (9 : Int) < k := by omega
      have hd : decDigits k = [UInt8.ofNat (48 + k)] := decDigits_one h9
      rw [hd] at hl
      have hc := one_str wr (48 + k) (by omega) (by omega) _ rfl
      rw [show (48 + (k : Int)).toNat = 48 + k by omega] at hc
      generalize UInt8.ofNat (48 + k) = ch at *
      have HE := Lib.hid hl
      clear hl hd
      go_wp2
      exact HFin.out _ (HB.out.alloc hs _) ([ch] ++ l) HE.out
    · have hk1 : (9 : Int) < k := by omega
      have hd : decDigits k = decDigits (k / 10) ++ [UInt8.ofNat (48 + k % 10)] := by conv => lhs; rw [decDigits, dif_neg h9]
      rw [hd, List.append_assoc] at hl
      have hc := one_str wr (48 + (k : Int) % 10) (by omega) (by omega) _ rfl
      rw [show (48 + (k : Int) % 10).toNat = 48 + k % 10 by omega] at hc
      generalize UInt8.ofNat (48 + k % 10) = ch at *
      have HE := Lib.hid hl
      have h9' : 10 ≤ k := by omega
      have hu' : (k : Int) ≤ 9223372036854775808 := by omega
      clear hl hd h9
      go_wp2
      refine ⟨⟨k / 10, [ch] ++ l, rfl, rfl, HE.out, by omega, HB.out.alloc hs _⟩, by simp [RowKit.intOf]; omega⟩
theorem digitsI (x : Int) (u : Nat) (hx : x = u) (hu : u ≤ 9223372036854775808) (w : World) : Calls Tryz.prog 36 #[.int .u64 x] w (DigP u w) := by
  subst hx
  exact digits u hu w
def NumP (v : Int) (w : World) (e : Ending) (w' : World) : Prop := e = .returned (str (Lib.itoa v)) ∧ Below w.heap.size w w'
theorem number' (v : Int) (h0 : -9223372036854775808 ≤ v) (h1 : v ≤ 9223372036854775807) (w : World) : Calls Tryz.prog 22 #[.int .i64 v] w (NumP v w) := by
  have HFin := Lib.hid fun V (hb : Below w.heap.size w V) l (hl : l = Lib.itoa v) => (show NumP v w (.returned (.string ⟨l.toArray⟩)) V from ⟨by rw [hl]; rfl, hb⟩)
  generalize NumP v w = PQ at *
  have HE : Hid (Lib.itoa v = if v < 0 then 45 :: decDigits v.natAbs else decDigits v.natAbs) := Lib.hid (by
    unfold Lib.itoa
    split
    · rfl
    · rw [show v.toNat = v.natAbs by omega])
  have HL := Lib.hid (dec_len19 v.natAbs (by omega))
  by_cases hv : v < 0
  · have HD := Lib.hid (digitsI (-(v + 1) + 1) v.natAbs (by omega) (by omega) w)
    have HE' : Hid (45 :: decDigits v.natAbs = Lib.itoa v) := Lib.hid (by rw [HE.out, if_pos hv])
    clear HE
    unfold DigP str at HD
    generalize decDigits v.natAbs = l at *
    go_enter Tryz.func22, Tryz.ntmps22
    go_wp2_with fail
    refine HD.out.mono ?_
    rintro e w1 ⟨rfl, hb⟩
    have HB := Lib.hid hb
    have hl : 1 + l.length ≤ 9223372036854775807 := by have := HL.out; omega
    clear hb
    go_wp2
    exact HFin.out _ HB.out ([45] ++ l) HE'.out
  · have hv0 : 0 ≤ v := by omega
    have HD := Lib.hid (digitsI v v.natAbs (by omega) (by omega) w)
    have HE' : Hid (decDigits v.natAbs = Lib.itoa v) := Lib.hid (by rw [HE.out, if_neg hv])
    clear HE
    unfold DigP str at HD
    generalize decDigits v.natAbs = l at *
    go_enter Tryz.func22, Tryz.ntmps22
    go_wp2_with fail
    refine HD.out.mono ?_
    rintro e w1 ⟨rfl, hb⟩
    have HB := Lib.hid hb
    clear hb
    go_wp2
    exact HFin.out _ HB.out l HE'.out
theorem idx_tx (t : Tx) (k : Nat) (c : UInt8) (h : t[k]? = some c) (w : World) : (Instr.index 9 (.string ⟨t.toArray⟩) (.int .i64 k)).run Tryz.prog w = .ok (.int .u8 c.toNat) w := by
  obtain ⟨hk, rfl⟩ := List.getElem?_eq_some_iff.1 h
  have hk2 : k < (⟨t.toArray⟩ : ByteArray).size := by rw [size_tx]; exact hk
  have : (Instr.index 9 (.string ⟨t.toArray⟩) (.int .i64 k)).run Tryz.prog w = .ok (.int .u8 (((⟨t.toArray⟩ : ByteArray)[k]'hk2).toNat : Int)) w := by go_simp
  rw [this]
  rfl
def NumbP (t : Tx) (w : World) (e : Ending) (w' : World) : Prop := (∃ v b, e = .returned (.tuple #[.int .i64 v, .bool b]) ∧ Nu t v b) ∧ Below w.heap.size w w'
def accRel (t : Tx) (w : World) (vi vn : Value) (wr : World) : Prop := ∃ i n : Nat, vi = .int .i64 i ∧ vn = .int .u64 n ∧ fromT t ≤ i ∧ i ≤ t.length ∧ n ≤ 18446744073709551609 ∧ accT (magT t) 0 = accT (t.drop i) n ∧ w = wr
theorem numb (t : Tx) (ht : t.length ≤ 1048576) (w : World) : Calls Tryz.prog 63 #[str t] w (NumbP t w) := by
  have HBad := Lib.hid fun V (hb : Below w.heap.size w V) (h : 20 < t.length ∨ magT t = [] ∨ accT (magT t) 0 = none) => (show NumbP t w (.returned (.tuple #[.int .i64 0, .bool false])) V from ⟨⟨_, _, rfl, nu_bad h⟩, hb⟩)
  have HFin := Lib.hid fun V (hb : Below w.heap.size w V) n (h : accT (magT t) 0 = some n) v (hv : numV2 t n = v) => (show NumbP t w (.returned (.tuple #[.int .i64 v, .bool (Lib.itoa v == t)])) V from ⟨⟨_, _, rfl, hv ▸ nu_some h⟩, hb⟩)
  generalize NumbP t w = PQ at *
  have HIx := Lib.hid (idx_tx t)
  unfold str
  by_cases h0 : t = []
  · subst h0
    go_enter Tryz.func63, Tryz.ntmps63
    go_wp2
    exact HBad.out _ (Below.refl _ _) (.inr (.inl rfl))
  · obtain ⟨c, hc⟩ : ∃ c, t[0]? = some c := by cases t with | nil => exact absurd rfl h0 | cons c r => exact ⟨c, rfl⟩
    have hl0 : 0 < t.length := by cases t with | nil => exact absurd rfl h0 | cons c r => simp
    have hx0 := HIx.out 0 c hc
    have hx00 : ∀ w, (Instr.index 9 (.string ⟨t.toArray⟩) (.int .i64 0)).run Tryz.prog w = .ok (.int .u8 c.toNat) w := hx0
    have HF : Hid (fromT t = if c = 45 then 1 else 0) := Lib.hid (by cases t with | nil => exact absurd rfl h0 | cons d r => (simp at hc; subst hc; rfl))
    clear hx0 h0 hc
    by_cases hc : c = 45
    · have h45 : ((c.toNat : Int) == 45) = true := by subst hc; rfl
      have HF1 : Hid (fromT t = 1) := Lib.hid (by rw [HF.out, if_pos hc])
      clear hc HF
      by_cases hl1 : t.length = 1
      · have g1 : ((t.length : Int) == 1) = true := beq_iff_eq.2 (by omega)
        have HM : Hid (magT t = []) := Lib.hid (by unfold magT; rw [HF1.out]; exact List.drop_eq_nil_of_le (by omega))
        clear hl1
        go_enter Tryz.func63, Tryz.ntmps63
        go_wp2
        exact HBad.out _ (Below.refl _ _) (.inr (.inl HM.out))
      · have g1 : ((t.length : Int) == 1) = false := beq_eq_false_iff_ne.2 (by omega)
        by_cases hl20 : 20 < t.length
        · have g2 : (20 : Int) < t.length := by omega
          clear hl1
          go_enter Tryz.func63, Tryz.ntmps63
          go_wp2
          exact HBad.out _ (Below.refl _ _) (.inl hl20)
        · have g2 : ¬ (20 : Int) < t.length := by omega
          have HS : Hid (accRel t w (.int .i64 1) (.int .u64 0) w) := Lib.hid ⟨1, 0, rfl, rfl, by rw [HF1.out]; omega, by omega, by omega, by unfold magT; rw [HF1.out], rfl⟩
          clear hl1
          go_enter Tryz.func63, Tryz.ntmps63
          go_wp2
          go_loopw [6, 4] (fun vi vn wr => accRel t w vi vn wr) (fun vi _ _ => t.length - (RowKit.intOf vi).toNat)
          case atStart => exact HS.out
          case round =>
            obtain ⟨i, n, rfl, rfl, hi0, hi, hn, hacc, rfl⟩ := hrel
            have HAcc := Lib.hid hacc
            have HI0 := Lib.hid hi0
            clear hacc hi0 h45 hx00 HS
            by_cases hlt : i < t.length
            · obtain ⟨d, hd⟩ : ∃ d, t[i]? = some d := ⟨_, List.getElem?_eq_getElem hlt⟩
              have hx := HIx.out i d hd
              have HDr : Hid (accT (magT t) 0 = if 48 ≤ d.toNat ∧ d.toNat ≤ 57 ∧ n ≤ 1844674407370955160 then accT (t.drop (i + 1)) (10 * n + (d.toNat - 48)) else none) := Lib.hid (by
                obtain ⟨h1, h2⟩ := List.getElem?_eq_some_iff.1 hd
                rw [HAcc.out, List.drop_eq_getElem_cons h1, h2]
                rfl)
              have hlt' : (i : Int) < t.length := by omega
              have hd2 := d.toNat_lt
              clear hd HAcc
              generalize d.toNat = x at *
              by_cases q1 : (x : Int) < 48
              · go_wp2
                exact HBad.out _ (Below.refl _ _) (.inr (.inr (by rw [HDr.out, if_neg (by omega)])))
              · by_cases q2 : (57 : Int) < x
                · go_wp2
                  exact HBad.out _ (Below.refl _ _) (.inr (.inr (by rw [HDr.out, if_neg (by omega)])))
                · by_cases q3 : (1844674407370955160 : Int) < n
                  · go_wp2
                    exact HBad.out _ (Below.refl _ _) (.inr (.inr (by rw [HDr.out, if_neg (by omega)])))
                  · have HN : Hid (10 * (n : Int) + ((x : Int) - 48) = ((10 * n + (x - 48) : Nat) : Int)) := Lib.hid (by omega)
                    go_wp2
                    refine ⟨⟨i + 1, 10 * n + (x - 48), by go_num, by rw [← HN.out], by have := HI0.out; omega, by omega, by omega, by rw [HDr.out, if_pos (by omega)], rfl⟩, by simp [RowKit.intOf]; omega⟩
            · have hlt' : ¬ (i : Int) < t.length := by omega
              have HA : Hid (accT (magT t) 0 = some n) := Lib.hid (by rw [HAcc.out, List.drop_eq_nil_of_le (by omega)]; rfl)
              have HNV : Hid (numV2 t n = wrap64 (-wrap64 n)) := Lib.hid (by unfold numV2; rw [HF1.out]; simp [IntKind.wrap_i64, wrap64])
              have hbd := numV2_bd t n
              clear HAcc HI0 hi hlt hn
              go_wp2_with fail
              rw [HNV.out] at hbd
              generalize wrap64 (-wrap64 (n : Int)) = v at *
              refine (number' v hbd.1 hbd.2 _).mono ?_
              rintro e w1 ⟨rfl, hb⟩
              have HB := Lib.hid hb
              clear hb hbd
              unfold str
              go_wp2
              exact HFin.out _ HB.out n HA.out v HNV.out
    · have h45 : ((c.toNat : Int) == 45) = false := beq_eq_false_iff_ne.2 fun e => hc (UInt8.toNat_inj.1 (by rw [show c.toNat = 45 by omega]; rfl))
      have HF1 : Hid (fromT t = 0) := Lib.hid (by rw [HF.out, if_neg hc])
      clear hc HF
      by_cases hl1 : t.length = 0
      · omega
      · have g1 : ((t.length : Int) == 0) = false := beq_eq_false_iff_ne.2 (by omega)
        by_cases hl20 : 20 < t.length
        · have g2 : (20 : Int) < t.length := by omega
          clear hl1
          go_enter Tryz.func63, Tryz.ntmps63
          go_wp2
          exact HBad.out _ (Below.refl _ _) (.inl hl20)
        · have g2 : ¬ (20 : Int) < t.length := by omega
          have HS : Hid (accRel t w (.int .i64 0) (.int .u64 0) w) := Lib.hid ⟨0, 0, rfl, rfl, by rw [HF1.out]; omega, by omega, by omega, by unfold magT; rw [HF1.out], rfl⟩
          clear hl1
          go_enter Tryz.func63, Tryz.ntmps63
          go_wp2
          go_loopw [6, 4] (fun vi vn wr => accRel t w vi vn wr) (fun vi _ _ => t.length - (RowKit.intOf vi).toNat)
          case atStart => exact HS.out
          case round =>
            obtain ⟨i, n, rfl, rfl, hi0, hi, hn, hacc, rfl⟩ := hrel
            have HAcc := Lib.hid hacc
            have HI0 := Lib.hid hi0
            clear hacc hi0 h45 hx00 HS
            by_cases hlt : i < t.length
            · obtain ⟨d, hd⟩ : ∃ d, t[i]? = some d := ⟨_, List.getElem?_eq_getElem hlt⟩
              have hx := HIx.out i d hd
              have HDr : Hid (accT (magT t) 0 = if 48 ≤ d.toNat ∧ d.toNat ≤ 57 ∧ n ≤ 1844674407370955160 then accT (t.drop (i + 1)) (10 * n + (d.toNat - 48)) else none) := Lib.hid (by
                obtain ⟨h1, h2⟩ := List.getElem?_eq_some_iff.1 hd
                rw [HAcc.out, List.drop_eq_getElem_cons h1, h2]
                rfl)
              have hlt' : (i : Int) < t.length := by omega
              have hd2 := d.toNat_lt
              clear hd HAcc
              generalize d.toNat = x at *
              by_cases q1 : (x : Int) < 48
              · go_wp2
                exact HBad.out _ (Below.refl _ _) (.inr (.inr (by rw [HDr.out, if_neg (by omega)])))
              · by_cases q2 : (57 : Int) < x
                · go_wp2
                  exact HBad.out _ (Below.refl _ _) (.inr (.inr (by rw [HDr.out, if_neg (by omega)])))
                · by_cases q3 : (1844674407370955160 : Int) < n
                  · go_wp2
                    exact HBad.out _ (Below.refl _ _) (.inr (.inr (by rw [HDr.out, if_neg (by omega)])))
                  · have HN : Hid (10 * (n : Int) + ((x : Int) - 48) = ((10 * n + (x - 48) : Nat) : Int)) := Lib.hid (by omega)
                    go_wp2
                    refine ⟨⟨i + 1, 10 * n + (x - 48), by go_num, by rw [← HN.out], by have := HI0.out; omega, by omega, by omega, by rw [HDr.out, if_pos (by omega)], rfl⟩, by simp [RowKit.intOf]; omega⟩
            · have hlt' : ¬ (i : Int) < t.length := by omega
              have HA : Hid (accT (magT t) 0 = some n) := Lib.hid (by rw [HAcc.out, List.drop_eq_nil_of_le (by omega)]; rfl)
              have HNV : Hid (numV2 t n = wrap64 n) := Lib.hid (by unfold numV2; rw [HF1.out]; simp [IntKind.wrap_i64, wrap64])
              have hbd := numV2_bd t n
              clear HAcc HI0 hi hlt hn
              go_wp2_with fail
              rw [HNV.out] at hbd
              generalize wrap64 (n : Int) = v at *
              refine (number' v hbd.1 hbd.2 _).mono ?_
              rintro e w1 ⟨rfl, hb⟩
              have HB := Lib.hid hb
              clear hb hbd
              unfold str
              go_wp2
              exact HFin.out _ HB.out n HA.out v HNV.out
end R32
end Go.Proofs.YtohlgcdailconaaGreatDoor.Scr
