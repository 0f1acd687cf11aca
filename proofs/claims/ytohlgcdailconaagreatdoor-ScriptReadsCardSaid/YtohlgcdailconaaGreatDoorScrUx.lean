/- The walks of the document's words, Bytes, bytes. -/
import Derived.Test.YtohlgcdailconaaGreatDoorScrUw
import Derived.Test.YtohlgcdailconaaGreatDoorScrV
namespace Go.Proofs.YtohlgcdailconaaGreatDoor.Scr
open Go.RowKit Lib
set_option linter.unusedVariables false
set_option linter.unusedSimpArgs false
namespace R32
/-- What the document's words leaves: the words, in a row of their own, or nothing. -/
def WordsP (t : Tx) (w : World) (e : Ending) (w' : World) : Prop :=
  Below w.heap.size w w' ∧ (wordsT t = none ∧ e = .returned (.tuple #[.slice none 0 0, .bool false]) ∨
    ∃ l g c, wordsT t = some l ∧ e = .returned (.tuple #[.slice (some ⟨g, 0, none⟩) l.length c, .bool true]) ∧ w.heap.size ≤ g ∧ g < w'.heap.size ∧ l.length ≤ c ∧ ∀ i x, l[i]? = some x → w'.cell? ⟨g, i, none⟩ = some (str x))
theorem WordsP.yes {t : Tx} {w w' : World} {v : Value} {l : List Tx} (hb : Below w.heap.size w w') (h : StrO w' w.heap.size v l) (hs : spl 32 t = l) (hne : ∀ x, x ∈ l → x ≠ []) : WordsP t w (.returned (.tuple #[v, .bool true])) w' := by
  have hl : l ≠ [] := by rw [← hs]; exact spl_ne 32 t
  obtain ⟨g, c, rfl, hc, h1, h2⟩ := h.form hl
  refine ⟨hb, .inr ⟨l, g, c, ?_, rfl, h1, h2, hc, fun i x hx => by have := h.cell i x hx; rwa [Nat.zero_add] at this⟩⟩
  unfold wordsT
  rw [split_spl, hs, if_neg (fun h => hne _ h rfl)]
theorem WordsP.no {t : Tx} {w w' : World} (hb : Below w.heap.size w w') (h : [] ∈ spl 32 t) : WordsP t w (.returned (.tuple #[.slice none 0 0, .bool false])) w' := by
  refine ⟨hb, .inl ⟨?_, rfl⟩⟩
  unfold wordsT
  rw [split_spl, if_pos h]
def wdRel (t : Tx) (W : World) (vl vf vi : Value) (wr : World) : Prop :=
  ∃ (i f : Nat) (L : List Tx), vi = .int .i64 i ∧ vf = .int .i64 f ∧ StrO wr W.heap.size vl L ∧ Below W.heap.size W wr ∧ L.length ≤ i ∧ (∀ x, x ∈ L → x ≠ []) ∧
    (i ≤ t.length ∧ f ≤ i ∧ spl 32 t = L ++ spl 32 (t.drop f) ∧ (∀ b, b ∈ (t.drop f).take (i - f) → b ≠ 32) ∨ i = t.length + 1 ∧ spl 32 t = L)
theorem seg_next {t : Tx} {i f : Nat} {c : UInt8} (hf : f ≤ i) (hc : t[i]? = some c) : (t.drop f).take (i + 1 - f) = (t.drop f).take (i - f) ++ [c] := by
  have hi : i < t.length := (List.getElem?_eq_some_iff.1 hc).1
  rw [show i + 1 - f = (i - f) + 1 by omega, List.take_add_one, List.getElem?_drop, show f + (i - f) = i by omega, hc]
  rfl
theorem seg_cut {t : Tx} {i f : Nat} (hf : f ≤ i) (hc : t[i]? = some 32) (h : ∀ b, b ∈ (t.drop f).take (i - f) → b ≠ 32) : spl 32 (t.drop f) = (t.drop f).take (i - f) :: spl 32 (t.drop (i + 1)) := by
  obtain ⟨hi, he⟩ := List.getElem?_eq_some_iff.1 hc
  have : t.drop f = (t.drop f).take (i - f) ++ 32 :: t.drop (i + 1) := by
    conv => lhs; rw [← List.take_append_drop (i - f) (t.drop f)]
    rw [List.drop_drop, show f + (i - f) = i by omega, List.drop_eq_getElem_cons hi, he]
  conv => lhs; rw [this]
  exact spl_app 32 _ _ h
theorem seg_end {t : Tx} {f : Nat} (hf : f ≤ t.length) (h : ∀ b, b ∈ (t.drop f).take (t.length - f) → b ≠ 32) : spl 32 (t.drop f) = [(t.drop f).take (t.length - f)] := by
  rw [List.take_of_length_le (by rw [List.length_drop]; omega)] at h ⊢
  exact spl_none 32 _ h
theorem cut_tx (t : Tx) (f i : Nat) (hf : f ≤ i) (hi : i ≤ t.length) (w : World) : (Instr.slice 9 (.string ⟨t.toArray⟩) (some (.int .i64 f)) (some (.int .i64 i)) none).run Tryz.prog w = .ok (str ((t.drop f).take (i - f))) w := by
  have hf' : (f : Int) ≤ i := by omega
  have hi' : (i : Int) ≤ t.length := by omega
  have hs := size_tx t
  go_simp
  rw [Lib.extract_eq]
  rfl
set_option maxHeartbeats 1000000 in
theorem words (t : Tx) (ht : t.length ≤ 1000000) (w : World) : Calls Tryz.prog 62 #[str t] w (WordsP t w) := by
  have HNo := Lib.hid fun V (hb : Below w.heap.size w V) (h : [] ∈ spl 32 t) => WordsP.no hb h
  have HYes := Lib.hid fun V v l (hb : Below w.heap.size w V) (h : StrO V w.heap.size v l) (hs : spl 32 t = l) (hne : ∀ x, x ∈ l → x ≠ []) => WordsP.yes (t := t) hb h hs hne
  generalize WordsP t w = PQ at *
  have HIx := Lib.hid (idx_tx t)
  have HCut := Lib.hid (cut_tx t)
  unfold str
  go_enter Tryz.func62, Tryz.ntmps62
  go_wp2
  go_loopw [4, 5, 6] (fun vl vf vi wr => wdRel t w vl vf vi wr) (fun _ _ vi _ => t.length + 1 - (RowKit.intOf vi).toNat)
  case atStart => exact ⟨0, 0, [], rfl, rfl, World.ownsRow_nil _ _ _ _, Below.refl _ _, by simp, by simp, .inl ⟨by omega, by omega, by simp, by simp⟩⟩
  case round =>
    obtain ⟨i, f, L, rfl, rfl, hst, hb, hLi, hne, hcase⟩ := hrel
    have HSt := Lib.hid hst
    have HB := Lib.hid hb
    have HNe := Lib.hid hne
    have hsz := hb.size
    clear hst hb hne
    rcases hcase with ⟨hi, hf, hsp, hfree⟩ | ⟨rfl, hsp⟩
    · have HSp := Lib.hid hsp
      have HFr := Lib.hid hfree
      clear hsp hfree
      have hle : (i : Int) ≤ t.length := by omega
      by_cases hlt : i < t.length
      · obtain ⟨c, hc⟩ : ∃ c, t[i]? = some c := ⟨_, List.getElem?_eq_getElem hlt⟩
        have hx := HIx.out i c hc
        have HC := Lib.hid hc
        have hlt' : (i : Int) < t.length := by omega
        clear hc
        by_cases h32 : c = 32
        · subst h32
          have hq : (((32 : UInt8).toNat : Int) != 32) = false := rfl
          by_cases hif : i = f
          · have hq2 : ((i : Int) == f) = true := beq_iff_eq.2 (by omega)
            have HM : Hid ([] ∈ spl 32 t) := Lib.hid (by rw [HSp.out, seg_cut hf HC.out HFr.out]; rw [show i - f = 0 by omega]; simp)
            clear hif
            go_wp2
            exact HNo.out _ HB.out HM.out
          · have hq2 : ((i : Int) == f) = false := beq_eq_false_iff_ne.2 (by omega)
            have hcut := HCut.out f i hf (by omega)
            have HX : Hid ((t.drop f).take (i - f) ≠ []) := Lib.hid (by intro e; have := congrArg List.length e; rw [List.length_take, List.length_drop] at this; simp at this; omega)
            have HS1 : Hid (spl 32 t = (L ++ [(t.drop f).take (i - f)]) ++ spl 32 (t.drop (i + 1))) := Lib.hid (by rw [HSp.out, seg_cut hf HC.out HFr.out]; simp)
            have hfi : (f : Int) ≤ i := by omega
            unfold str at hcut
            generalize (t.drop f).take (i - f) = x at *
            go_wp2_with (at_builtin; refine wpList_app_str (by rfl) _ _ (by rfl) w.heap.size _ L (by rfl) (HSt.out.below ((Below.refl _ _).alloc (Nat.le_refl _) _)) _ x (by rfl) (heap_alloc_new wr _) (by omega) (by simp; omega) ?_; intro v' w7 hst' hgr hat; have HS7 := Lib.hid hst'; have HG7 := Lib.hid hgr; clear hst' hgr hat)
            refine ⟨⟨i + 1, i + 1, L ++ [x], by go_num, by go_num, HS7.out, (HB.out.alloc hsz _).grown HG7.out (by simp; omega) (fun k hk => (World.ownsRow.lt HSt.out k hk).1), by simp; omega, fun y hy => ?_, .inl ⟨by omega, by omega, HS1.out, by simp⟩⟩, by simp [RowKit.intOf]; omega⟩
            rcases List.mem_append.1 hy with hy | hy
            · exact HNe.out y hy
            · obtain rfl : y = x := by simpa using hy
              exact HX.out
        · have hq : ((c.toNat : Int) != 32) = true := by
            simp
            intro e
            exact h32 (UInt8.toNat_inj.1 (by rw [show c.toNat = 32 by omega]; rfl))
          have H32 := Lib.hid h32
          clear h32
          go_wp2
          refine ⟨⟨i + 1, f, L, by go_num, rfl, HSt.out, HB.out, by omega, HNe.out, .inl ⟨by omega, by omega, HSp.out, fun b hb => ?_⟩⟩, by simp [RowKit.intOf]; omega⟩
          rw [seg_next hf HC.out] at hb
          rcases List.mem_append.1 hb with hb | hb
          · exact HFr.out b hb
          · obtain rfl : b = c := by simpa using hb
            exact H32.out
      · have hlt' : ¬ (i : Int) < t.length := by omega
        by_cases hif : i = f
        · have hq2 : ((i : Int) == f) = true := beq_iff_eq.2 (by omega)
          have HM : Hid ([] ∈ spl 32 t) := Lib.hid (by rw [HSp.out, seg_end (by omega) (by have := HFr.out; rwa [show t.length = i by omega]), show t.length = i by omega]; rw [show i - f = 0 by omega]; simp)
          clear hif
          go_wp2
          exact HNo.out _ HB.out HM.out
        · have hq2 : ((i : Int) == f) = false := beq_eq_false_iff_ne.2 (by omega)
          have hcut := HCut.out f i hf (by omega)
          have HX : Hid ((t.drop f).take (i - f) ≠ []) := Lib.hid (by intro e; have := congrArg List.length e; rw [List.length_take, List.length_drop] at this; simp at this; omega)
          have HS1 : Hid (spl 32 t = L ++ [(t.drop f).take (i - f)]) := Lib.hid (by rw [HSp.out, seg_end (by omega) (by have := HFr.out; rwa [show t.length = i by omega]), show t.length = i by omega])
          have hfi : (f : Int) ≤ i := by omega
          unfold str at hcut
          generalize (t.drop f).take (i - f) = x at *
          go_wp2_with (at_builtin; refine wpList_app_str (by rfl) _ _ (by rfl) w.heap.size _ L (by rfl) (HSt.out.below ((Below.refl _ _).alloc (Nat.le_refl _) _)) _ x (by rfl) (heap_alloc_new wr _) (by omega) (by simp; omega) ?_; intro v' w7 hst' hgr hat; have HS7 := Lib.hid hst'; have HG7 := Lib.hid hgr; clear hst' hgr hat)
          refine ⟨⟨i + 1, i + 1, L ++ [x], by go_num, by go_num, HS7.out, (HB.out.alloc hsz _).grown HG7.out (by simp; omega) (fun k hk => (World.ownsRow.lt HSt.out k hk).1), by simp; omega, fun y hy => ?_, .inr ⟨by omega, HS1.out⟩⟩, by simp [RowKit.intOf]; omega⟩
          rcases List.mem_append.1 hy with hy | hy
          · exact HNe.out y hy
          · obtain rfl : y = x := by simpa using hy
            exact HX.out
    · have HSp := Lib.hid hsp
      have hle : ¬ ((t.length + 1 : Nat) : Int) ≤ t.length := by omega
      clear hsp
      go_wp2
      exact HYes.out _ _ _ HB.out HSt.out HSp.out HNe.out
end R32
end Go.Proofs.YtohlgcdailconaaGreatDoor.Scr
