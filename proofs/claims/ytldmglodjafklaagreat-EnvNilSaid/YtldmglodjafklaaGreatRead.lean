/- How an argument that came in reads: structs of one-cell fields, slices of such; and how large its strings may be. -/
import Derived.Deep.Slices
import Derived.Deep.Fields
import Derived.ChangeSame
import Derived.SizedLaws
import Derived.ChangeArms
import Derived.Below
namespace Go.Proofs.YtldmglodjafklaaGreat.Rd
open Go.ChangeShapes Go.WideShapes Go.Deep
section
variable {H : Type} {enc : TypeId × Value → H} {P : Program} {w : World} {base : Nat} {spare : Nat → Bool} {held : Bool}
/-- No string or slice in it is larger than the reach. -/
def Wt (P : Program) (t : TypeId) (d : DataW H) : Prop := ∀ n, n ∈ d.weights P t → n ≤ reachBytes
theorem wt_of {ts : List TypeId} {ds : List (DataW H)} (h : (DataW.weightsEach P ts ds).all (· ≤ reachBytes) = true) {j : Nat} {t : TypeId} {d : DataW H} (ht : ts[j]? = some t) (hd : ds[j]? = some d) : Wt P t d := by
  intro n hn
  have := List.all_eq_true.1 h n (DataW.weights_mem_each ht hd n hn)
  simpa using this
theorem wt_str {t : TypeId} {l : List UInt8} (h : Wt P t (.lit (.string l) : DataW H)) : l.length < 140737488355328 :=
  Nat.lt_of_le_of_lt (h l.length (by simp [DataW.weights])) (by decide)
theorem wt_field {t : TypeId} {fs : Array Field} (ht : P.underlying t = some (.struct fs)) {parts : List (DataW H)} (h : Wt P t (.agg parts)) {j : Nat} {f : Field} {d : DataW H} (hf : fs[j]? = some f) (hd : parts[j]? = some d) : Wt P f.type d := by
  intro n hn
  refine h n ?_
  simp only [DataW.weights, ht]
  exact DataW.weights_mem_each (by simpa using (show (fs.toList.map (·.type))[j]? = some f.type by simp [hf])) hd n hn
theorem mem_weightsAll {e : TypeId} {d : DataW H} {n : Nat} : ∀ {l : List (DataW H)}, d ∈ l → n ∈ d.weights P e → n ∈ DataW.weightsAll P e l
  | x :: r, hd, hn => by
    simp only [DataW.weightsAll, List.mem_append]
    rcases List.mem_cons.1 hd with rfl | h
    · exact .inl hn
    · exact .inr (mem_weightsAll h hn)
theorem wt_elem {t e : TypeId} (ht : P.underlying t = some (.slice e)) {elems sp : List (DataW H)} (h : Wt P t (.slice elems sp)) {d : DataW H} (hd : d ∈ elems) : Wt P e d := by
  intro n hn
  refine h n ?_
  simp only [DataW.weights, ht, List.mem_cons, List.mem_append]
  exact .inr (.inl (mem_weightsAll hd hn))
theorem wt_len {t e : TypeId} (ht : P.underlying t = some (.slice e)) {elems sp : List (DataW H)} (h : Wt P t (.slice elems sp)) : elems.length * P.bytesOf e < 140737488355328 := by
  have := h ((elems.length + sp.length) * P.bytesOf e) (by simp [DataW.weights, ht])
  have h2 : elems.length * P.bytesOf e ≤ (elems.length + sp.length) * P.bytesOf e := Nat.mul_le_mul_right _ (by omega)
  exact Nat.lt_of_le_of_lt (Nat.le_trans h2 this) (by decide)
variable {t : TypeId} {fuel : Nat} {v : Value} {y : DataW H × List MemPlace}
theorem rd_int {k : IntKind} (ht : P.underlying t = some (.int k)) (h : DataW.trod enc P w base spare held fuel t [v] = some y) : ∃ n, v = .int k n ∧ (Lit.int k n).wf = true := by
  obtain ⟨n, hc, _, hw⟩ := DataW.trod_int ht h
  simp at hc
  exact ⟨n, hc, hw⟩
theorem rd_bool (ht : P.underlying t = some .bool) (h : DataW.trod enc P w base spare held fuel t [v] = some y) : ∃ b, v = .bool b := by
  obtain ⟨n, hc, _⟩ := DataW.trod_bool ht h
  simp at hc
  exact ⟨n, hc⟩
theorem rd_str (ht : P.underlying t = some .string) (h : DataW.trod enc P w base spare held fuel t [v] = some y) (hw : Wt P t y.1) : ∃ s : ByteArray, v = .string s ∧ s.size < 140737488355328 := by
  obtain ⟨s, hc, rfl, _⟩ := DataW.trod_string ht h
  simp at hc
  have := wt_str hw
  rw [Array.length_toList] at this
  exact ⟨s, hc, this⟩
/-- A struct of one-cell fields: each field by itself. -/
theorem rd_struct {fs : Array Field} (ht : P.underlying t = some (.struct fs)) (hone : oneCellFields P fs = true) (hC : P.cellsOf t = fs.size) {cs : List Value} (h : DataW.trod enc P w base spare held fuel t cs = some y) (hw : Wt P t y.1) :
    cs.length = fs.size ∧ ∀ (j : Nat) (f : Field), fs[j]? = some f → ∃ (v : Value) (z : DataW H × List MemPlace) (n : Nat), cs[j]? = some v ∧ DataW.trod enc P w base spare held n f.type [v] = some z ∧ Wt P f.type z.1 := by
  obtain ⟨xs, n, _, rfl, hlen, hxl, hf⟩ := DataW.trod_struct ht h
  rw [hC] at hlen
  refine ⟨hlen, fun j f hj => ?_⟩
  obtain ⟨ho, hk⟩ := hone_of hone j f hj
  have hjl : j < fs.size := (Array.getElem?_eq_some_iff.1 hj).1
  have h1 := hf j f hj
  rw [ho, hk] at h1
  have hone' : (cs.drop j).take 1 = [cs[j]'(by omega)] := by
    rw [List.drop_eq_getElem_cons (by omega)]
    rfl
  rw [hone'] at h1
  have hys : xs[j]? = some (xs[j]'(by omega)) := List.getElem?_eq_getElem (by omega)
  exact ⟨_, _, n, List.getElem?_eq_getElem (by omega), h1.trans hys, wt_field ht hw hj (by rw [List.getElem?_map, hys]; rfl)⟩
theorem list_choose {X : Type} (n : Nat) (Q : Nat → X → Prop) (h : ∀ i, i < n → ∃ x, Q i x) : ∃ xs : List X, xs.length = n ∧ ∀ i x, xs[i]? = some x → Q i x := by
  induction n with
  | zero => exact ⟨[], rfl, fun i x hx => by simp at hx⟩
  | succ n ih =>
    obtain ⟨xs, hl, hx⟩ := ih fun i hi => h i (by omega)
    obtain ⟨x, hq⟩ := h n (by omega)
    refine ⟨xs ++ [x], by simp [hl], fun i y hy => ?_⟩
    by_cases hi : i < n
    · exact hx i y (by rwa [List.getElem?_append_left (by omega)] at hy)
    · rw [List.getElem?_append_right (by omega)] at hy
      have : i - xs.length = 0 := by
        rcases Nat.eq_zero_or_pos (i - xs.length) with g | g
        · exact g
        · rw [List.getElem?_eq_none (by simp; omega)] at hy; cases hy
      rw [this] at hy
      simp at hy
      obtain rfl : i = n := by omega
      exact hy ▸ hq
/-- A slice in memory: the cells of each element, C of them, are told by Q. -/
def Sl {X : Type} (w : World) (C : Nat) (Q : (Nat → Option Value) → X → Prop) (a : Option Addr) (cap : Nat) (xs : List X) : Prop :=
  xs.length ≤ cap ∧ cap ≤ maxLen ∧ (xs = [] ∨ ∃ b off, a = some ⟨b, off, none⟩ ∧ ∀ i x, xs[i]? = some x → Q (fun j => w.cell? ⟨b, off + i * C + j, none⟩) x) ∧ (a = none → cap = 0)
theorem rd_slice {e : TypeId} (ht : P.underlying t = some (.slice e)) (C : Nat) (hC : P.cellsOf e = C) (hC0 : 0 < C) {X : Type} (Q : (Nat → Option Value) → X → Prop)
    (hQ : ∀ (cs : List Value) (n : Nat) (z : DataW H × List MemPlace) (g : Nat → Option Value), DataW.trod enc P w base spare held n e cs = some z → Wt P e z.1 → cs.length = C → (∀ j, j < C → g j = cs[j]?) → ∃ x, Q g x)
    (h : DataW.trod enc P w base spare held fuel t [v] = some y) (hw : Wt P t y.1) :
    ∃ (a : Option Addr) (cap : Nat) (xs : List X), v = .slice a xs.length cap ∧ Sl w C Q a cap xs ∧ xs.length * P.bytesOf e < 140737488355328 := by
  rcases open_slice ht h with ⟨hc, _⟩ | ⟨a, len, cap, m, n, D, Pl, hcs, hb, hl, hm, hmm, rfl, hi⟩
  · simp at hc
    exact ⟨none, 0, [], hc, ⟨Nat.le_refl _, Nat.zero_le _, .inl rfl, fun _ => rfl⟩, by simp⟩
  · simp at hcs
    have hml : len ≤ m := by rw [hmm]; split <;> omega
    obtain ⟨b, off, spot⟩ := a
    have hsp : 0 < len → spot = none := by
      intro h0
      obtain ⟨cs', h1, h2⟩ := hi 0 (by omega)
      rw [hC] at h1
      obtain ⟨_, hcl, hat⟩ := World.cells?_some h1
      have := hat 0 hC0
      have hz : cs'[0]? = some (cs'[0]'(by omega)) := List.getElem?_eq_getElem (by omega)
      rw [hz] at this
      cases spot with
      | none => rfl
      | some s => simp [Addr.add, World.cell?] at this; split at this <;> simp at this
    obtain ⟨xs, hxl, hx⟩ := list_choose len (fun i x => Q (fun j => w.cell? ⟨b, off + i * C + j, none⟩) x) (fun i hi' => by
      obtain ⟨cs', h1, h2⟩ := hi i (by omega)
      rw [hC] at h1
      obtain ⟨_, hcl, hat⟩ := World.cells?_some h1
      refine hQ cs' n _ _ h2 (wt_elem ht hw (List.mem_map.2 ⟨i, List.mem_range.2 hi', rfl⟩)) hcl fun j hj => ?_
      have hs := hsp (by omega)
      subst hs
      rw [← hat j hj]
      congr 1
      unfold Addr.add
      by_cases e1 : i * C = 0
      · by_cases e2 : j = 0 <;> simp [e1, e2]
      · by_cases e2 : j = 0 <;> simp [e1, e2, Nat.add_assoc])
    have hlen : len = xs.length := hxl.symm
    have hwl := wt_len ht hw
    rw [List.length_map, List.length_range] at hwl
    rw [hlen] at hcs hwl hl
    refine ⟨_, cap, xs, hcs, ⟨hl, hm, ?_, fun h => by cases h⟩, hwl⟩
    cases xs with
    | nil => exact .inl rfl
    | cons x r =>
      have hs := hsp (by rw [hlen]; simp)
      subst hs
      exact .inr ⟨b, off, rfl, hx⟩
end
end Go.Proofs.YtldmglodjafklaaGreat.Rd
