/- Plain law of a script's text: written and read, read and written. -/
import Derived.Test.YtohlgcdailconaaGreatDoorScrV
namespace Go.Proofs.YtohlgcdailconaaGreatDoor.Scr
open Go.RowKit Lib Go.Proofs.YtohlgcdailconaaGreatDoor.Word
set_option linter.unusedVariables false
theorem lineT_of {s : Sc} {n : Int} {f : Bool} {t : Tx} {l : List Tx} (h : wordsT t = some l) : lineT s n f t = lineW s n f l := by unfold lineT; rw [h]; rfl
theorem lineT_m (s : Sc) (f : Bool) {hp : Int} {xs : List Int} (h0 : 0 ≤ hp) (hx : ∀ x, x ∈ xs → 0 ≤ x) (hh : hardOk hp xs = true) : lineT s 0 f (mLine hp xs) = some ({ s with pages := hp, exts := xs }, f) := by
  rw [lineT_of (mLine_words hp xs)]
  show (machT _).map _ = _
  rw [machT_line h0 hx hh]
  rfl
theorem lineT_k (s : Sc) (f : Bool) (t : Tx) : lineT s 1 f (kLine t) = some ({ s with key := t }, f) := by
  rw [lineT_of (kLine_words t)]
  show (if keyW = keyW then (bytesT (120 :: hexT t)).map _ else none) = _
  rw [if_pos rfl, bytes_hex]
  rfl
theorem lineW_n {s : Sc} {n : Int} {f : Bool} {x : Tx} {r : List Tx} (h0 : 2 ≤ n) : lineW s n f (x :: r) = if x = imgW then if f = false ∧ s.imgs.length < 16 then imgO s f r else none else (readA (x :: r)).map fun a => ({ s with acts := s.acts ++ [a] }, true) := by
  unfold lineW
  rw [if_neg (by omega), if_neg (by omega)]
theorem lineT_i (s : Sc) (n : Int) (t : Tx) (h0 : 2 ≤ n) (hi : s.imgs.length < 16) : lineT s n false (iLine t) = some ({ s with imgs := s.imgs ++ [t] }, false) := by
  rw [lineT_of (iLine_words t), lineW_n h0, if_pos rfl, if_pos ⟨rfl, hi⟩]
  show (bytesT (120 :: hexT t)).map _ = _
  rw [bytes_hex]
  rfl
theorem lineT_a (s : Sc) (n : Int) (f : Bool) {a : Ac} (h0 : 2 ≤ n) (hm : mayA a = true) (ha : a.ok) : lineT s n f (lineA a) = some ({ s with acts := s.acts ++ [a] }, true) := by
  have hr := readA_words ha hm
  obtain ⟨k, hk, k0, k1, _⟩ := mayA_d hm
  have hw := (form_word k k0 k1).2.2.1
  rw [lineT_of (aLine_words hm)]
  unfold wordsA at hr ⊢
  rw [lineW_n h0, if_neg (by rw [hk]; exact hw), hr]
  rfl
theorem goL_step {s : Sc} {n : Int} {f : Bool} {l : Tx} {R : List Tx} {st : Sc × Bool} (h : lineT s n f l = some st) (hR : R ≠ []) : goL (l :: R) s n f = goL R st.1 (n + 1) st.2 := by
  cases R with
  | nil => exact absurd rfl hR
  | cons a b => show (match lineT s n f l with | none => (zeroS, n + 1, 320) | some st => goL (a :: b) st.1 (n + 1) st.2) = _; rw [h]
theorem goL_stop {s : Sc} {n : Int} {f : Bool} {l : Tx} {R : List Tx} (h : lineT s n f l = none) (hR : R ≠ []) : goL (l :: R) s n f = (zeroS, n + 1, 320) := by
  cases R with
  | nil => exact absurd rfl hR
  | cons a b => show (match lineT s n f l with | none => (zeroS, n + 1, 320) | some st => goL (a :: b) st.1 (n + 1) st.2) = _; rw [h]
theorem goA : ∀ (us : List Ac) (s : Sc) (n : Int) (f : Bool), 2 ≤ n → (∀ a, a ∈ us → mayA a = true ∧ a.ok) → goL (us.map lineA ++ [[]]) s n f = ({ s with acts := s.acts ++ us }, 0, 0)
  | [], s, n, f, hn, _ => by
    show finT [] s n = _
    unfold finT
    rw [if_neg (by simp; omega)]
    simp
  | a :: r, s, n, f, hn, h => by
    rw [List.map_cons, List.cons_append, goL_step (lineT_a s n f hn (h a (by simp)).1 (h a (by simp)).2) (by simp), goA r _ _ _ (by omega) fun b hb => h b (by simp [hb])]
    simp
theorem goI (R : List Tx) (hR : R ≠ []) : ∀ (is : List Tx) (s : Sc) (n : Int), 2 ≤ n → s.imgs.length + is.length ≤ 16 → goL (is.map iLine ++ R) s n false = goL R { s with imgs := s.imgs ++ is } (n + is.length) false
  | [], s, n, hn, _ => by simp
  | t :: r, s, n, hn, h => by
    simp only [List.length_cons] at h
    rw [List.map_cons, List.cons_append, goL_step (lineT_i s n t hn (by omega)) (by simp [hR]), goI R hR r _ _ (by omega) (by simp; omega)]
    simp only [List.append_assoc, List.singleton_append, List.length_cons]
    congr 1
    omega
theorem writeE_zero {s : Sc} (h : writeE s = 0) : hardOk s.pages s.exts = true ∧ s.imgs.length ≤ 16 ∧ s.acts.all mayA = true ∧ (scT s).length ≤ 1048576 := by
  unfold writeE at h
  split at h
  · rename_i hc
    exact absurd h hc
  · rename_i hc
    have hc : checkE s = 0 := Classical.byContradiction hc
    split at h
    · cases h
    · rename_i hl
      unfold checkE at hc
      split at hc
      · rename_i hh
        split at hc
        · cases hc
        · rename_i hi
          unfold actsE at hc
          split at hc
          · rename_i ha
            exact ⟨hh, by omega, ha, by omega⟩
          · cases hc
      · cases hc
theorem writeE_of {s : Sc} (h1 : hardOk s.pages s.exts = true) (h2 : s.imgs.length ≤ 16) (h3 : s.acts.all mayA = true) (h4 : (scT s).length ≤ 1048576) : writeE s = 0 := by
  have hc : checkE s = 0 := by
    unfold checkE actsE
    rw [if_pos h1, if_neg (by omega), if_pos h3]
  unfold writeE
  rw [hc, if_neg (by simp), if_neg (by omega)]
/-- WHAT WAS WRITTEN IS READ AS ITSELF. -/
theorem read_write {s : Sc} (hs : s.ok) (h : writeE s = 0) : readT (scT s) = (s, 0, 0) := by
  obtain ⟨h1, h2, h3, h4⟩ := writeE_zero h
  unfold readT
  rw [if_neg (by omega), scT_lines, spl_lines _ (linesT_chars h3)]
  unfold linesT
  rw [List.cons_append, goL_step (lineT_m _ _ hs.p0 (fun x hx => (hs.e0 x hx).1) h1) (by simp), List.cons_append, goL_step (n := 0 + 1) (show lineT _ (0 + 1) _ _ = _ from lineT_k _ _ _) (by simp), List.append_assoc, goI _ (by simp) _ _ _ (by decide) (by simpa [zeroS] using h2), goA _ _ _ _ (by omega) fun a ha => ⟨List.all_eq_true.1 h3 a ha, hs.a0 a ha⟩]
  simp [zeroS]
theorem lineT_words {s : Sc} {n : Int} {f : Bool} {t : Tx} {st : Sc × Bool} (h : lineT s n f t = some st) : ∃ l, wordsT t = some l ∧ lineW s n f l = some st := by
  unfold lineT at h
  exact Option.bind_eq_some_iff.1 h
theorem back_m {s : Sc} {f : Bool} {t : Tx} {st : Sc × Bool} (h : lineT s 0 f t = some st) : ∃ hp xs, t = mLine hp xs ∧ st = ({ s with pages := hp, exts := xs }, f) ∧ hardOk hp xs = true ∧ 0 ≤ hp ∧ ∀ x, x ∈ xs → 0 ≤ x := by
  obtain ⟨l, hl, h⟩ := lineT_words h
  replace h : (machT l).map (fun st => (({ s with pages := st.1, exts := st.2 } : Sc), f)) = some st := h
  obtain ⟨u, hu, rfl⟩ := Option.map_eq_some_iff.1 h
  obtain ⟨rfl, h1, h2, h3⟩ := machT_back hu
  exact ⟨u.1, u.2, (words_back hl).symm, rfl, h1, h2, h3⟩
theorem back_k {s : Sc} {f : Bool} {t : Tx} {st : Sc × Bool} (h : lineT s 1 f t = some st) : ∃ b, t = kLine b ∧ st = ({ s with key := b }, f) := by
  obtain ⟨l, hl, h⟩ := lineT_words h
  unfold lineW at h
  rw [if_neg (by decide), if_pos rfl] at h
  split at h
  · rename_i k y
    split at h
    · rename_i hk
      subst hk
      obtain ⟨b, hb, rfl⟩ := Option.map_eq_some_iff.1 h
      have hw := words_back hl
      rw [bytes_back hb] at hw
      exact ⟨b, hw.symm, rfl⟩
    · cases h
  · cases h
theorem back_n {s : Sc} {n : Int} {f : Bool} {t : Tx} {st : Sc × Bool} (hn : 2 ≤ n) (ht : t.length ≤ 1048576) (h : lineT s n f t = some st) : (∃ b, t = iLine b ∧ f = false ∧ s.imgs.length < 16 ∧ st = ({ s with imgs := s.imgs ++ [b] }, false)) ∨ ∃ a, t = lineA a ∧ mayA a = true ∧ a.ok ∧ st = ({ s with acts := s.acts ++ [a] }, true) := by
  obtain ⟨l, hl, h⟩ := lineT_words h
  cases l with
  | nil => exact absurd rfl (words_ne hl)
  | cons x r =>
    rw [lineW_n hn] at h
    split at h
    · rename_i hx
      subst hx
      split at h
      · rename_i hf
        obtain ⟨rfl, hi⟩ := hf
        unfold imgO at h
        split at h
        · obtain ⟨b, hb, rfl⟩ := Option.map_eq_some_iff.1 h
          have hw := words_back hl
          rw [bytes_back hb] at hw
          exact .inl ⟨b, hw.symm, rfl, hi, rfl⟩
        · cases h
      · cases h
    · obtain ⟨a, ha, rfl⟩ := Option.map_eq_some_iff.1 h
      obtain ⟨h1, h2, h3⟩ := readA_back ha fun y hy => Nat.le_trans ((words_lens hl).1 y hy) ht
      have hw := words_back hl
      rw [← h2] at hw
      exact .inr ⟨a, hw.symm, h1, h3, rfl⟩
/-- A script as far as it was read, and its lines. -/
structure Good (s : Sc) (f : Bool) (done : List Tx) : Prop where
  lines : linesT s = done
  hard : hardOk s.pages s.exts = true
  p0 : 0 ≤ s.pages
  e0 : ∀ x, x ∈ s.exts → 0 ≤ x
  imgs : s.imgs.length ≤ 16
  may : s.acts.all mayA = true
  ok : ∀ a, a ∈ s.acts → a.ok
  fresh : f = false → s.acts = []
theorem Good.img {s : Sc} {done : List Tx} (h : Good s false done) (b : Tx) (hi : s.imgs.length < 16) : Good { s with imgs := s.imgs ++ [b] } false (done ++ [iLine b]) := by
  have ha := h.fresh rfl
  refine ⟨?_, h.hard, h.p0, h.e0, by simp; omega, h.may, h.ok, h.fresh⟩
  rw [← h.lines]
  unfold linesT
  simp only [ha, List.map_append, List.map_cons, List.map_nil, List.append_nil, List.cons_append]
theorem Good.act {s : Sc} {f : Bool} {done : List Tx} (h : Good s f done) {a : Ac} (hm : mayA a = true) (ha : a.ok) : Good { s with acts := s.acts ++ [a] } true (done ++ [lineA a]) := by
  refine ⟨?_, h.hard, h.p0, h.e0, h.imgs, ?_, fun b hb => ?_, fun e => by cases e⟩
  · rw [← h.lines]
    unfold linesT
    simp
  · show (s.acts ++ [a]).all mayA = true
    rw [List.all_append, h.may]
    simp [hm]
  · rcases List.mem_append.1 hb with hb | hb
    · exact h.ok b hb
    · simp only [List.mem_singleton] at hb
      subst hb
      exact ha
theorem go_back : ∀ (ls : List Tx) (s : Sc) (n : Int) (f : Bool) (done : List Tx), ls ≠ [] → 2 ≤ n → Good s f done → (∀ l, l ∈ ls → l.length ≤ 1048576) →
    (∃ x f' lines, goL ls s n f = (x, 0, 0) ∧ ls = lines ++ [[]] ∧ Good x f' (done ++ lines)) ∨ ∃ m, goL ls s n f = (zeroS, m, 320) ∧ 0 < m
  | [], _, _, _, _, h, _, _, _ => absurd rfl h
  | [r], s, n, f, done, _, hn, hg, _ => by
    by_cases hr : r = []
    · subst hr
      refine .inl ⟨s, f, [], ?_, rfl, by simpa using hg⟩
      show finT [] s n = _
      unfold finT
      rw [if_neg (by simp; omega)]
    · refine .inr ⟨n + 1, ?_, by omega⟩
      show finT r s n = _
      unfold finT
      rw [if_pos (.inl hr)]
  | l :: r :: more, s, n, f, done, _, hn, hg, hl => by
    have hl' : ∀ x, x ∈ r :: more → x.length ≤ 1048576 := fun x hx => hl x (by simp only [List.mem_cons] at hx ⊢; exact .inr hx)
    cases hlt : lineT s n f l with
    | none => exact .inr ⟨n + 1, goL_stop hlt (by simp), by omega⟩
    | some st =>
      rw [goL_step hlt (by simp)]
      rcases back_n hn (hl l (by simp)) hlt with ⟨b, rfl, rfl, hi, rfl⟩ | ⟨a, rfl, hm, ha, rfl⟩
      · rcases go_back (r :: more) _ (n + 1) _ _ (by simp) (by omega) (hg.img b hi) hl' with ⟨x, f', lines, h1, h2, h3⟩ | h
        · exact .inl ⟨x, f', _ :: lines, h1, by rw [h2]; rfl, by simpa using h3⟩
        · exact .inr h
      · rcases go_back (r :: more) _ (n + 1) _ _ (by simp) (by omega) (hg.act hm ha) hl' with ⟨x, f', lines, h1, h2, h3⟩ | h
        · exact .inl ⟨x, f', _ :: lines, h1, by rw [h2]; rfl, by simpa using h3⟩
        · exact .inr h
theorem line_len (w t : Tx) : t.length ≤ (Lib.join [w, 120 :: hexT t] [32]).length := by
  have : (hexT t).length = 2 * t.length := by
    unfold hexT
    rw [strOfNums_data, List.length_map, hexL_length, nums_tx, List.length_map]
  rw [join_two, Lib.join_one, List.length_append, List.length_cons, List.length_cons, this]
  omega
theorem good_ok {x : Sc} {f : Bool} {t : Tx} (ht : t.length ≤ 1000000) (hs : spl 10 t = linesT x ++ [[]]) (h : Good x f (linesT x)) : x.ok ∧ scT x = t ∧ writeE x = 0 := by
  obtain ⟨hl1, hl2⟩ := spl_lens 10 t
  rw [hs] at hl1 hl2
  have hj := join_spl 10 t
  rw [hs, join_lines, ← scT_lines] at hj
  obtain ⟨h1, h2, h3⟩ := hardOk_bd h.hard
  have hm : ∀ l, l ∈ linesT x → l.length ≤ t.length := fun l hl => hl1 l (by simp [hl])
  refine ⟨⟨h.p0, by omega, fun y hy => ⟨h.e0 y hy, by have := h3 y hy; omega⟩, by omega, ?_, fun y hy => ?_, by have := h.imgs; omega, h.ok, ?_⟩, hj, writeE_of h.hard h.imgs h.may (by rw [hj]; omega)⟩
  · have := hm (kLine x.key) (by simp [linesT])
    have := line_len keyW x.key
    unfold kLine at *
    omega
  · have := hm (iLine y) (by simp only [linesT, List.mem_cons, List.mem_append, List.mem_map]; exact .inr (.inr (.inl ⟨y, hy, rfl⟩)))
    have := line_len imgW y
    unfold iLine at *
    omega
  · simp only [linesT, List.length_append, List.length_cons, List.length_map, List.length_nil] at hl2
    omega
/-- WHAT WAS READ IS WRITTEN AS IT STOOD. -/
theorem write_read (t : Tx) (ht : t.length ≤ 1000000) : (∃ x, readT t = (x, 0, 0) ∧ x.ok ∧ scT x = t ∧ writeE x = 0) ∨ ∃ m, readT t = (zeroS, m, 320) ∧ 0 < m := by
  have hlen := (spl_lens 10 t).1
  have hj := join_spl 10 t
  have hrd : readT t = goL (spl 10 t) zeroS 0 false := if_neg (by omega)
  rw [hrd]
  cases hs : spl 10 t with
  | nil => exact absurd hs (spl_ne 10 t)
  | cons l0 R =>
    rw [hs] at hlen hj
    cases R with
    | nil => exact .inr ⟨0 + 1, by show finT l0 zeroS 0 = _; unfold finT; rw [if_pos (.inr (by decide))], by decide⟩
    | cons l1 R =>
      cases h0 : lineT zeroS 0 false l0 with
      | none => exact .inr ⟨0 + 1, goL_stop h0 (by simp), by decide⟩
      | some st0 =>
        rw [goL_step h0 (by simp)]
        obtain ⟨hp, xs, rfl, rfl, hh, p0, e0⟩ := back_m h0
        cases R with
        | nil => exact .inr ⟨0 + 1 + 1, by show finT l1 _ (0 + 1) = _; unfold finT; rw [if_pos (.inr (by decide))], by decide⟩
        | cons l2 R =>
          cases h1 : lineT { zeroS with pages := hp, exts := xs } (0 + 1) false l1 with
          | none => exact .inr ⟨0 + 1 + 1, goL_stop h1 (by simp), by decide⟩
          | some st1 =>
            rw [goL_step h1 (by simp)]
            obtain ⟨b, rfl, rfl⟩ := back_k h1
            have hg : Good { { zeroS with pages := hp, exts := xs } with key := b } false [mLine hp xs, kLine b] := ⟨rfl, hh, p0, e0, by simp [zeroS], rfl, fun a ha => (by cases ha), fun _ => rfl⟩
            rcases go_back (l2 :: R) _ (0 + 1 + 1) _ _ (by simp) (by decide) hg (fun l hl => by have := hlen l (by simp only [List.mem_cons] at hl ⊢; exact .inr (.inr hl)); omega) with ⟨x, f', lines, h3, h4, h5⟩ | h
            · have hls : linesT x = mLine hp xs :: kLine b :: lines := h5.lines
              have hg2 : Good x f' (linesT x) := { h5 with lines := rfl }
              exact .inl ⟨x, h3, good_ok ht (by rw [hs, h4, hls]; rfl) hg2⟩
            · exact .inr h
end Go.Proofs.YtohlgcdailconaaGreatDoor.Scr
