/- heavy: more than a statement looks at. -/
import Derived.Test.YtohlgcdailconaaGreatDoorScrW
import Derived.Deep.QuietTactic
import Derived.BigQuiet
namespace Go.Proofs.YtohlgcdailconaaGreatDoor.Scr
open Go.RowKit Lib
set_option linter.unusedVariables false
set_option linter.unusedSimpArgs false
def lensT (l : List Tx) : Nat := (l.map List.length).sum
theorem lensT_snoc (l : List Tx) (i : Nat) (t : Tx) (h : l[i]? = some t) : lensT (l.take (i + 1)) = lensT (l.take i) + t.length := by
  unfold lensT
  rw [List.take_add_one, h]
  simp
theorem lensT_le (B : Nat) (l : List Tx) (h : ∀ t, t ∈ l → t.length ≤ B) : lensT l ≤ l.length * B := by
  induction l with
  | nil => simp [lensT]
  | cons x r ih =>
    have h1 := h x (by simp)
    have h2 := ih fun t ht => h t (by simp [ht])
    unfold lensT at h2 ⊢
    rw [List.map_cons, List.sum_cons, List.length_cons, Nat.add_mul]
    omega
theorem lensT_mem (l : List Tx) : ∀ t, t ∈ l → t.length ≤ lensT l := by
  induction l with
  | nil => intro t ht; cases ht
  | cons x r ih =>
    intro t ht
    have e : lensT (x :: r) = x.length + lensT r := by simp [lensT]
    rcases List.mem_cons.1 ht with rfl | ht
    · omega
    · have := ih t ht
      omega
def heavyN (s : Sc) : Nat := s.key.length + lensT (s.imgs.take 40) + lensT ((s.acts.map Ac.t).take 300)
def heavyB (s : Sc) : Bool := decide (40 < s.exts.length) || decide (30 < s.imgs.length) || decide (250 < s.acts.length) || decide (16384 < heavyN s)
def hvRel (W : World) (k m : Nat) (l : List Tx) (vn vi : Value) (wr : World) : Prop := ∃ i : Nat, i ≤ l.length ∧ i ≤ m ∧ vi = .int .i64 i ∧ vn = .int .i64 ((k + lensT (l.take i) : Nat) : Int) ∧ W = wr
set_option maxRecDepth 100000 in
set_option maxHeartbeats 4000000 in
theorem heavy {w : World} {p : SA} {s : Sc} (hp : ScR w p s) (hk : s.key.length ≤ 140737488355328) (hi : ∀ t, t ∈ s.imgs → t.length ≤ 140737488355328) (ha : ∀ a, a ∈ s.acts → a.t.length ≤ 140737488355328) :
    Calls Tryz.prog 5 #[.agg (p.cells s)] w fun e w' => e = .returned (.bool (heavyB s)) ∧ Below w.heap.size w w' := by
  have hB := (Below.refl w.heap.size w).alloc (Nat.le_refl _) (.cells (p.cells s) 29)
  have h0 := heap_alloc_new w (.cells (p.cells s) 29)
  have HP := Lib.hid (hp.below hB)
  have HB := Lib.hid hB
  have HI := Lib.hid fun (i : Nat) (t : Tx) (h : s.imgs[i]? = some t) => hi t (List.mem_of_getElem? h)
  have HA := Lib.hid fun (i : Nat) (t : Tx) (h : (s.acts.map Ac.t)[i]? = some t) => (show t.length ≤ 140737488355328 by
    obtain ⟨a, h1, rfl⟩ := List.mem_map.1 (List.mem_of_getElem? h)
    exact ha a h1)
  have HLi := Lib.hid fun i => (lensT_le 140737488355328 (s.imgs.take i) fun t ht => hi t (List.mem_of_mem_take ht))
  have HLa := Lib.hid fun i => (lensT_le 140737488355328 ((s.acts.map Ac.t).take i) fun t ht => by
    obtain ⟨a, h1, rfl⟩ := List.mem_map.1 (List.mem_of_mem_take ht)
    exact ha a h1)
  have HV : Hid (heavyB s = (decide (40 < s.exts.length) || decide (30 < s.imgs.length) || decide (250 < s.acts.length) || decide (16384 < heavyN s))) := Lib.hid rfl
  obtain ⟨c0, c1, c2, c3, c4⟩ := blk5 h0
  have hz := lt_of_block h0
  unfold str at c2
  clear hp hB hi ha h0
  generalize p.cells s = PC at *
  go_enter Tryz.func5, Tryz.ntmps5
  go_wp2_with fail
  generalize w.alloc (.cells PC 29) = w1 at *
  go_loopw [3, 4] (fun vn vi wr => hvRel w1 s.key.length 40 s.imgs vn vi wr) (fun _ vi _ => s.imgs.length - (RowKit.intOf vi).toNat)
  case atStart => exact ⟨0, by omega, by omega, rfl, by simp [lensT], rfl⟩
  case round =>
    obtain ⟨i, hi, hm, rfl, rfl, rfl⟩ := hrel
    have hli := HLi.out i
    rw [List.length_take] at hli
    by_cases hin : i < s.imgs.length ∧ i < 40
    · obtain ⟨hin, hm'⟩ := hin
      have HX : Hid (s.imgs[i]? = some s.imgs[i]) := Lib.hid (List.getElem?_eq_getElem hin)
      generalize s.imgs[i] = t at *
      obtain ⟨g, o, hg, hc⟩ := HP.out.imgs.at HX.out
      have ht := HI.out i t HX.out
      have hs := lensT_snoc _ i t HX.out
      unfold str at hc
      rw [hg] at c3
      clear hg
      generalize lensT (s.imgs.take i) = S at *
      have hS : S ≤ 40 * 140737488355328 := Nat.le_trans hli (Nat.mul_le_mul_right _ (by omega))
      clear hli
      go_wp2
      exact ⟨⟨i + 1, by omega, by omega, by go_num, by rw [hs]; go_num, rfl⟩, by simp [RowKit.intOf]; omega⟩
    · have hN : lensT (s.imgs.take i) = lensT (s.imgs.take 40) := by
        rcases Nat.lt_or_ge i s.imgs.length with h | h
        · rw [show i = 40 by omega]
        · rw [List.take_of_length_le h, List.take_of_length_le (by omega)]
      rw [hN] at hli ⊢
      have h2 : (¬ (i : Int) < s.imgs.length) ∨ ((i : Int) < s.imgs.length ∧ ¬ (i : Int) < 40) := by omega
      have hS : s.key.length + lensT (s.imgs.take 40) ≤ 41 * 140737488355328 := by
        have := Nat.le_trans hli (Nat.mul_le_mul_right _ (Nat.le_trans (Nat.min_le_left _ _) hm))
        omega
      have HN : Hid (heavyN s = s.key.length + lensT (s.imgs.take 40) + lensT ((s.acts.map Ac.t).take 300)) := Lib.hid rfl
      clear hin hN hli
      generalize s.key.length + lensT (s.imgs.take 40) = K at *
      rcases h2 with h2 | ⟨h2, h3⟩
      all_goals go_wp2_with fail
      all_goals (
        go_loopw [3, 5] (fun vn vi wr => hvRel w1 K 300 (s.acts.map Ac.t) vn vi wr) (fun _ vi _ => s.acts.length - (RowKit.intOf vi).toNat)
        case atStart => exact ⟨0, by omega, by omega, rfl, by simp [lensT], rfl⟩
        case round =>
          obtain ⟨i, hi, hm, rfl, rfl, rfl⟩ := hrel
          have hli := HLa.out i
          rw [List.length_take, List.length_map] at hli
          rw [List.length_map] at hi
          by_cases hin : i < s.acts.length ∧ i < 300
          · obtain ⟨hin, hm'⟩ := hin
            have HX : Hid (s.acts[i]? = some s.acts[i]) := Lib.hid (List.getElem?_eq_getElem hin)
            generalize s.acts[i] = a at *
            have hat : (s.acts.map Ac.t)[i]? = some a.t := by rw [List.getElem?_map, HX.out]; rfl
            obtain ⟨g, o, hg, _, _, _, hc⟩ := HP.out.acts.at HX.out
            have ht := HA.out i _ hat
            have hs := lensT_snoc _ i _ hat
            rw [hg] at c4
            clear hg hat
            generalize lensT ((s.acts.map Ac.t).take i) = S at *
            have hS2 : S ≤ 300 * 140737488355328 := Nat.le_trans hli (Nat.mul_le_mul_right _ (by omega))
            clear hli
            go_wp2
            exact ⟨⟨i + 1, by rw [List.length_map]; omega, by omega, by go_num, by rw [hs]; go_num, rfl⟩, by simp [RowKit.intOf]; omega⟩
          · have hN : lensT ((s.acts.map Ac.t).take i) = lensT ((s.acts.map Ac.t).take 300) := by
              rcases Nat.lt_or_ge i s.acts.length with h | h
              · rw [show i = 300 by omega]
              · rw [List.take_of_length_le (by rw [List.length_map]; exact h), List.take_of_length_le (by rw [List.length_map]; omega)]
            rw [hN] at hli ⊢
            rw [← HN.out]
            have h4 : (¬ (i : Int) < s.acts.length) ∨ ((i : Int) < s.acts.length ∧ ¬ (i : Int) < 300) := by omega
            clear hin hN hli HN
            generalize heavyN s = N at *
            rcases h4 with h4 | ⟨h4, h5⟩
            all_goals go_wp2
            all_goals go_ret
            all_goals refine ⟨?_, HB.out⟩
            all_goals rw [HV.out]
            all_goals refine congrArg (fun b => Ending.returned (.bool b)) (Bool.eq_iff_iff.2 ?_)
            all_goals simp only [Bool.or_eq_true, decide_eq_true_eq]
            all_goals first | omega | (simp only [true_iff]; omega))
end Go.Proofs.YtohlgcdailconaaGreatDoor.Scr
