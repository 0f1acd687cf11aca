/- How a script that came in reads. -/
import Derived.Deep.Slices
import Derived.Deep.Fields
import Derived.ChangeSame
import Derived.SizedLaws
import Derived.ChangeArms
import Derived.Below
import Derived.Laws.StructEq
import Derived.OpenShut
import Derived.Test.YtohlgcdailconaaGreatDoorScrY
/- How an argument that came in reads: structs of one-cell fields, slices of such; and how large its strings may be. -/
namespace Go.Proofs.YtohlgcdailconaaGreatDoor.In
open Go.ChangeShapes Go.WideShapes Go.Deep
section
variable {H : Type} {enc : TypeId × Value → H} {P : Program} {w : World} {base : Nat} {spare : Nat → Bool} {held : Bool}
/-- No string or slice in it is larger than the reach. -/
def Wt (P : Program) (t : TypeId) (d : DataW H) : Prop := ∀ n, n ∈ d.weights P t → n ≤ reachBytes
theorem wt_of {ts : List TypeId} {ds : List (DataW H)} (h : (DataW.weightsEach P ts ds).all (· ≤ reachBytes) = true) {j : Nat} {t : TypeId} {d : DataW H} (ht : ts[j]? = some t) (hd : ds[j]? = some d) : Wt P t d := by
  intro n hn
  have := List.all_eq_true.1 h n (DataW.weights_mem_each ht hd n hn)
  simpa using this
theorem wt_str {t : TypeId} {l : List UInt8} (h : Wt P t (.lit (.string l) : DataW H)) : l.length < 140737488355328 :=
  Nat.lt_of_le_of_lt (h l.length (by simp [DataW.weights])) (by decide)
theorem wt_field {t : TypeId} {fs : Array Field} (ht : P.underlying t = some (.struct fs)) {parts : List (DataW H)} (h : Wt P t (.agg parts)) {j : Nat} {f : Field} {d : DataW H} (hf : fs[j]? = some f) (hd : parts[j]? = some d) : Wt P f.type d := by
  intro n hn
  refine h n ?_
  simp only [DataW.weights, ht]
  exact DataW.weights_mem_each (by simpa using (show (fs.toList.map (·.type))[j]? = some f.type by simp [hf])) hd n hn
theorem mem_weightsAll {e : TypeId} {d : DataW H} {n : Nat} : ∀ {l : List (DataW H)}, d ∈ l → n ∈ d.weights P e → n ∈ DataW.weightsAll P e l
  | x :: r, hd, hn => by
    simp only [DataW.weightsAll, List.mem_append]
    rcases List.mem_cons.1 hd with rfl | h
    · exact .inl hn
    · exact .inr (mem_weightsAll h hn)
theorem wt_elem {t e : TypeId} (ht : P.underlying t = some (.slice e)) {elems sp : List (DataW H)} (h : Wt P t (.slice elems sp)) {d : DataW H} (hd : d ∈ elems) : Wt P e d := by
  intro n hn
  refine h n ?_
  simp only [DataW.weights, ht, List.mem_cons, List.mem_append]
  exact .inr (.inl (mem_weightsAll hd hn))
theorem wt_len {t e : TypeId} (ht : P.underlying t = some (.slice e)) {elems sp : List (DataW H)} (h : Wt P t (.slice elems sp)) : elems.length * P.bytesOf e < 140737488355328 := by
  have := h ((elems.length + sp.length) * P.bytesOf e) (by simp [DataW.weights, ht])
  have h2 : elems.length * P.bytesOf e ≤ (elems.length + sp.length) * P.bytesOf e := Nat.mul_le_mul_right _ (by omega)
  exact Nat.lt_of_le_of_lt (Nat.le_trans h2 this) (by decide)
variable {t : TypeId} {fuel : Nat} {v : Value} {y : DataW H × List MemPlace}
theorem rd_int {k : IntKind} (ht : P.underlying t = some (.int k)) (h : DataW.trod enc P w base spare held fuel t [v] = some y) : ∃ n, v = .int k n ∧ (Lit.int k n).wf = true := by
  obtain ⟨n, hc, _, hw⟩ := DataW.trod_int ht h
  simp at hc
  exact ⟨n, hc, hw⟩
theorem rd_bool (ht : P.underlying t = some .bool) (h : DataW.trod enc P w base spare held fuel t [v] = some y) : ∃ b, v = .bool b := by
  obtain ⟨n, hc, _⟩ := DataW.trod_bool ht h
  simp at hc
  exact ⟨n, hc⟩
theorem rd_str (ht : P.underlying t = some .string) (h : DataW.trod enc P w base spare held fuel t [v] = some y) (hw : Wt P t y.1) : ∃ s : ByteArray, v = .string s ∧ s.size < 140737488355328 := by
  obtain ⟨s, hc, rfl, _⟩ := DataW.trod_string ht h
  simp at hc
  have := wt_str hw
  rw [Array.length_toList] at this
  exact ⟨s, hc, this⟩
/-- A struct of one-cell fields: each field by itself. -/
theorem rd_struct {fs : Array Field} (ht : P.underlying t = some (.struct fs)) (hone : oneCellFields P fs = true) (hC : P.cellsOf t = fs.size) {cs : List Value} (h : DataW.trod enc P w base spare held fuel t cs = some y) (hw : Wt P t y.1) :
    cs.length = fs.size ∧ ∀ (j : Nat) (f : Field), fs[j]? = some f → ∃ (v : Value) (z : DataW H × List MemPlace) (n : Nat), cs[j]? = some v ∧ DataW.trod enc P w base spare held n f.type [v] = some z ∧ Wt P f.type z.1 := by
  obtain ⟨xs, n, _, rfl, hlen, hxl, hf⟩ := DataW.trod_struct ht h
  rw [hC] at hlen
  refine ⟨hlen, fun j f hj => ?_⟩
  obtain ⟨ho, hk⟩ := hone_of hone j f hj
  have hjl : j < fs.size := (Array.getElem?_eq_some_iff.1 hj).1
  have h1 := hf j f hj
  rw [ho, hk] at h1
  have hone' : (cs.drop j).take 1 = [cs[j]'(by omega)] := by
    rw [List.drop_eq_getElem_cons (by omega)]
    rfl
  rw [hone'] at h1
  have hys : xs[j]? = some (xs[j]'(by omega)) := List.getElem?_eq_getElem (by omega)
  exact ⟨_, _, n, List.getElem?_eq_getElem (by omega), h1.trans hys, wt_field ht hw hj (by rw [List.getElem?_map, hys]; rfl)⟩
theorem list_choose {X : Type} (n : Nat) (Q : Nat → X → Prop) (h : ∀ i, i < n → ∃ x, Q i x) : ∃ xs : List X, xs.length = n ∧ ∀ i x, xs[i]? = some x → Q i x := by
  induction n with
  | zero => exact ⟨[], rfl, fun i x hx => by simp at hx⟩
  | succ n ih =>
    obtain ⟨xs, hl, hx⟩ := ih fun i hi => h i (by omega)
    obtain ⟨x, hq⟩ := h n (by omega)
    refine ⟨xs ++ [x], by simp [hl], fun i y hy => ?_⟩
    by_cases hi : i < n
    · exact hx i y (by rwa [List.getElem?_append_left (by omega)] at hy)
    · rw [List.getElem?_append_right (by omega)] at hy
      have : i - xs.length = 0 := by
        rcases Nat.eq_zero_or_pos (i - xs.length) with g | g
        · exact g
        · rw [List.getElem?_eq_none (by simp; omega)] at hy; cases hy
      rw [this] at hy
      simp at hy
      obtain rfl : i = n := by omega
      exact hy ▸ hq
/-- A slice in memory: the cells of each element, C of them, are told by Q. -/
def Sl {X : Type} (w : World) (C : Nat) (Q : (Nat → Option Value) → X → Prop) (a : Option Addr) (cap : Nat) (xs : List X) : Prop :=
  xs.length ≤ cap ∧ cap ≤ maxLen ∧ (xs = [] ∨ ∃ b off, a = some ⟨b, off, none⟩ ∧ ∀ i x, xs[i]? = some x → Q (fun j => w.cell? ⟨b, off + i * C + j, none⟩) x) ∧ (a = none → cap = 0)
theorem rd_slice {e : TypeId} (ht : P.underlying t = some (.slice e)) (C : Nat) (hC : P.cellsOf e = C) (hC0 : 0 < C) {X : Type} (Q : (Nat → Option Value) → X → Prop)
    (hQ : ∀ (cs : List Value) (n : Nat) (z : DataW H × List MemPlace) (g : Nat → Option Value), DataW.trod enc P w base spare held n e cs = some z → Wt P e z.1 → cs.length = C → (∀ j, j < C → g j = cs[j]?) → ∃ x, Q g x)
    (h : DataW.trod enc P w base spare held fuel t [v] = some y) (hw : Wt P t y.1) :
    ∃ (a : Option Addr) (cap : Nat) (xs : List X), v = .slice a xs.length cap ∧ Sl w C Q a cap xs ∧ xs.length * P.bytesOf e < 140737488355328 := by
  rcases open_slice ht h with ⟨hc, _⟩ | ⟨a, len, cap, m, n, D, Pl, hcs, hb, hl, hm, hmm, rfl, hi⟩
  · simp at hc
    exact ⟨none, 0, [], hc, ⟨Nat.le_refl _, Nat.zero_le _, .inl rfl, fun _ => rfl⟩, by simp⟩
  · simp at hcs
    have hml : len ≤ m := by rw [hmm]; split <;> omega
    obtain ⟨b, off, spot⟩ := a
    have hsp : 0 < len → spot = none := by
      intro h0
      obtain ⟨cs', h1, h2⟩ := hi 0 (by omega)
      rw [hC] at h1
      obtain ⟨_, hcl, hat⟩ := World.cells?_some h1
      have := hat 0 hC0
      have hz : cs'[0]? = some (cs'[0]'(by omega)) := List.getElem?_eq_getElem (by omega)
      rw [hz] at this
      cases spot with
      | none => rfl
      | some s => simp [Addr.add, World.cell?] at this; split at this <;> simp at this
    obtain ⟨xs, hxl, hx⟩ := list_choose len (fun i x => Q (fun j => w.cell? ⟨b, off + i * C + j, none⟩) x) (fun i hi' => by
      obtain ⟨cs', h1, h2⟩ := hi i (by omega)
      rw [hC] at h1
      obtain ⟨_, hcl, hat⟩ := World.cells?_some h1
      refine hQ cs' n _ _ h2 (wt_elem ht hw (List.mem_map.2 ⟨i, List.mem_range.2 hi', rfl⟩)) hcl fun j hj => ?_
      have hs := hsp (by omega)
      subst hs
      rw [← hat j hj]
      congr 1
      unfold Addr.add
      by_cases e1 : i * C = 0
      · by_cases e2 : j = 0 <;> simp [e1, e2]
      · by_cases e2 : j = 0 <;> simp [e1, e2, Nat.add_assoc])
    have hlen : len = xs.length := hxl.symm
    have hwl := wt_len ht hw
    rw [List.length_map, List.length_range] at hwl
    rw [hlen] at hcs hwl hl
    refine ⟨_, cap, xs, hcs, ⟨hl, hm, ?_, fun h => by cases h⟩, hwl⟩
    cases xs with
    | nil => exact .inl rfl
    | cons x r =>
      have hs := hsp (by rw [hlen]; simp)
      subst hs
      exact .inr ⟨b, off, rfl, hx⟩
end
end Go.Proofs.YtohlgcdailconaaGreatDoor.In
namespace Go.Proofs.YtohlgcdailconaaGreatDoor.Scr
open Go.RowKit Lib
set_option linter.unusedVariables false
set_option linter.unusedSimpArgs false
theorem b_u8 {n : Int} (h : (Lit.int .u8 n).wf = true) : 0 ≤ n ∧ n ≤ 255 := by
  simp [Lit.wf, IntKind.min, IntKind.max, IntKind.signed, IntKind.bits] at h
  omega
theorem b_u32 {n : Int} (h : (Lit.int .u32 n).wf = true) : 0 ≤ n ∧ n ≤ 4294967295 := by
  simp [Lit.wf, IntKind.min, IntKind.max, IntKind.signed, IntKind.bits] at h
  omega
theorem b_i64 {n : Int} (h : (Lit.int .i64 n).wf = true) : -9223372036854775808 ≤ n ∧ n ≤ 9223372036854775807 := by
  simp [Lit.wf, IntKind.min, IntKind.max, IntKind.signed, IntKind.bits] at h
  omega
def wordQ (g : Nat → Option Value) (x : Int) : Prop := g 0 = some (.int .u32 x) ∧ 0 ≤ x ∧ x ≤ 4294967295
def strQ (g : Nat → Option Value) (t : Tx) : Prop := g 0 = some (str t) ∧ t.length ≤ 140737488355328
def actQ (g : Nat → Option Value) (a : Ac) : Prop := (g 0 = some (.int .u8 a.d) ∧ g 1 = some (.int .i64 a.n) ∧ g 2 = some (.int .i64 a.m) ∧ g 3 = some (str a.t)) ∧ 0 ≤ a.d ∧ a.d ≤ 255 ∧ -9223372036854775808 ≤ a.n ∧ a.n ≤ 9223372036854775807 ∧ -9223372036854775808 ≤ a.m ∧ a.m ≤ 9223372036854775807 ∧ a.t.length ≤ 140737488355328
section
variable {H : Type} {enc : TypeId × Value → H} {w : World} {base : Nat} {spare : Nat → Bool} {held : Bool}
theorem word_read (cs : List Value) (n : Nat) (z : DataW H × List MemPlace) (g : Nat → Option Value)
    (h : DataW.trod enc Tryz.prog w base spare held n 22 cs = some z) (hw : In.Wt Tryz.prog 22 z.1) (hl : cs.length = 1) (hg : ∀ j, j < 1 → g j = cs[j]?) : ∃ x : Int, wordQ g x := by
  match cs, hl with
  | [v], _ =>
    obtain ⟨x, rfl, wx⟩ := In.rd_int Tryz.underlying22 h
    exact ⟨x, hg 0 (by omega), b_u32 wx⟩
theorem str_read (cs : List Value) (n : Nat) (z : DataW H × List MemPlace) (g : Nat → Option Value)
    (h : DataW.trod enc Tryz.prog w base spare held n 9 cs = some z) (hw : In.Wt Tryz.prog 9 z.1) (hl : cs.length = 1) (hg : ∀ j, j < 1 → g j = cs[j]?) : ∃ x : Tx, strQ g x := by
  match cs, hl with
  | [v], _ =>
    obtain ⟨x, rfl, wx⟩ := In.rd_str Tryz.underlying9 h hw
    exact ⟨x.data.toList, hg 0 (by omega), by rw [← size_eq]; omega⟩
theorem act_read (cs : List Value) (n : Nat) (z : DataW H × List MemPlace) (g : Nat → Option Value)
    (h : DataW.trod enc Tryz.prog w base spare held n 44 cs = some z) (hw : In.Wt Tryz.prog 44 z.1) (hl : cs.length = 4) (hg : ∀ j, j < 4 → g j = cs[j]?) : ∃ x : Ac, actQ g x := by
  obtain ⟨_, hs⟩ := In.rd_struct Tryz.underlying44 (by kernel_rfl) (by kernel_rfl) h hw
  obtain ⟨v0, z0, n0, e0, t0, q0⟩ := hs 0 _ rfl
  obtain ⟨x0, rfl, w0⟩ := In.rd_int Tryz.underlying5 t0
  obtain ⟨v1, z1, n1, e1, t1, q1⟩ := hs 1 _ rfl
  obtain ⟨x1, rfl, w1⟩ := In.rd_int Tryz.underlying3 t1
  obtain ⟨v2, z2, n2, e2, t2, q2⟩ := hs 2 _ rfl
  obtain ⟨x2, rfl, w2⟩ := In.rd_int Tryz.underlying3 t2
  obtain ⟨v3, z3, n3, e3, t3, q3⟩ := hs 3 _ rfl
  obtain ⟨x3, rfl, w3⟩ := In.rd_str Tryz.underlying9 t3 q3
  have b0 := b_u8 w0
  have b1 := b_i64 w1
  have b2 := b_i64 w2
  exact ⟨⟨x0, x1, x2, x3.data.toList⟩, ⟨(hg 0 (by omega)).trans e0, (hg 1 (by omega)).trans e1, (hg 2 (by omega)).trans e2, (hg 3 (by omega)).trans e3⟩, b0.1, b0.2, b1.1, b1.2, b2.1, b2.2, by show x3.data.toList.length ≤ _; rw [← size_eq]; omega⟩
end
/-- A row of elements, out of how a slice reads. -/
theorem sl_rd {X : Type} {w : World} {a : Option Addr} {cap C : Nat} {xs : List X} {Q : (Nat → Option Value) → X → Prop} {f : X → List Value} (hC : 0 < C) (hf : ∀ x, (f x).length = C) (hQ : ∀ g x, Q g x → ∀ j v, (f x)[j]? = some v → g j = some v) (h : In.Sl w C Q a cap xs) : Rd w a C (xs.map f) := by
  obtain ⟨_, _, h, _⟩ := h
  rcases h with rfl | ⟨b, off, rfl, h⟩
  · exact Rd.nil _ _ _
  · intro i r hr
    rw [List.getElem?_map] at hr
    obtain ⟨x, hx, rfl⟩ := Option.map_eq_some_iff.1 hr
    have hq := hQ _ _ (h i x hx)
    refine ⟨b, off, rfl, ?_, fun j v hv => hq j v hv⟩
    have h0 : (f x)[0]? = some ((f x)[0]'(by rw [hf]; exact hC)) := List.getElem?_eq_getElem _
    have := hq 0 _ h0
    unfold World.cell? at this
    cases hb : w.heap[b]? with
    | none => rw [hb] at this; simp at this
    | some _ => exact lt_of_block hb
theorem sl_mem {X : Type} {w : World} {a : Option Addr} {cap C : Nat} {xs : List X} {Q : (Nat → Option Value) → X → Prop} (h : In.Sl w C Q a cap xs) : ∀ x, x ∈ xs → ∃ g, Q g x := by
  obtain ⟨_, _, h, _⟩ := h
  rcases h with rfl | ⟨b, off, rfl, h⟩
  · intro x hx; cases hx
  · intro x hx
    obtain ⟨i, hi⟩ := List.getElem?_of_mem hx
    exact ⟨_, h i x hi⟩
set_option maxRecDepth 100000 in
theorem script_read {H : Type} {enc : TypeId × Value → H} {w : World} {base : Nat} {spare : Nat → Bool} {held : Bool} (cs : List Value) (n : Nat) (z : DataW H × List MemPlace)
    (h : DataW.trod enc Tryz.prog w base spare held n 29 cs = some z) (hw : In.Wt Tryz.prog 29 z.1) : ∃ (p : SA) (s : Sc), cs = (p.cells s).toList ∧ ScR w p s ∧ s.inp := by
  obtain ⟨xs, m, _, rfl, hlen, hxl, hf⟩ := DataW.trod_struct Tryz.underlying29 h
  rw [show Tryz.prog.cellsOf 29 = 5 by kernel_rfl] at hlen
  have hx4 : xs.length = 4 := hxl
  match cs, hlen, xs, hx4 with
  | [c0, c1, c2, c3, c4], _, [y0, y1, y2, y3], _ =>
    have f0 : DataW.trod enc Tryz.prog w base spare held m 25 (([c0, c1, c2, c3, c4].drop 0).take (Tryz.prog.cellsOf 25)) = some y0 := hf 0 _ rfl
    rw [show Tryz.prog.cellsOf 25 = 2 by kernel_rfl] at f0
    have f0 : DataW.trod enc Tryz.prog w base spare held m 25 [c0, c1] = some y0 := f0
    have f1 : DataW.trod enc Tryz.prog w base spare held m 9 (([c0, c1, c2, c3, c4].drop 2).take (Tryz.prog.cellsOf 9)) = some y1 := hf 1 _ rfl
    rw [show Tryz.prog.cellsOf 9 = 1 by kernel_rfl] at f1
    have f1 : DataW.trod enc Tryz.prog w base spare held m 9 [c2] = some y1 := f1
    have f2 : DataW.trod enc Tryz.prog w base spare held m 26 (([c0, c1, c2, c3, c4].drop 3).take (Tryz.prog.cellsOf 26)) = some y2 := hf 2 _ rfl
    rw [show Tryz.prog.cellsOf 26 = 1 by kernel_rfl] at f2
    have f2 : DataW.trod enc Tryz.prog w base spare held m 26 [c3] = some y2 := f2
    have f3 : DataW.trod enc Tryz.prog w base spare held m 27 (([c0, c1, c2, c3, c4].drop 4).take (Tryz.prog.cellsOf 27)) = some y3 := hf 3 _ rfl
    rw [show Tryz.prog.cellsOf 27 = 1 by kernel_rfl] at f3
    have f3 : DataW.trod enc Tryz.prog w base spare held m 27 [c4] = some y3 := f3
    have w0 : In.Wt Tryz.prog 25 y0.1 := In.wt_field Tryz.underlying29 hw (j := 0) rfl rfl
    have w1 : In.Wt Tryz.prog 9 y1.1 := In.wt_field Tryz.underlying29 hw (j := 1) rfl rfl
    have w2 : In.Wt Tryz.prog 26 y2.1 := In.wt_field Tryz.underlying29 hw (j := 2) rfl rfl
    have w3 : In.Wt Tryz.prog 27 y3.1 := In.wt_field Tryz.underlying29 hw (j := 3) rfl rfl
    obtain ⟨_, hs⟩ := In.rd_struct Tryz.underlying25 (by kernel_rfl) (by kernel_rfl) f0 w0
    obtain ⟨v0, z0, n0, e0, t0, q0⟩ := hs 0 _ rfl
    obtain ⟨x0, rfl, u0⟩ := In.rd_int Tryz.underlying22 t0
    obtain ⟨v1, z1, n1, e1, t1, q1⟩ := hs 1 _ rfl
    obtain ⟨ea, ec, ex, rfl, s1, l1⟩ := In.rd_slice Tryz.underlying23 1 (by kernel_rfl) (by omega) wordQ (fun cs n z g => word_read cs n z g) t1 q1
    obtain ⟨k, rfl, uk⟩ := In.rd_str Tryz.underlying9 f1 w1
    obtain ⟨ia, ic, ix, rfl, s2, l2⟩ := In.rd_slice Tryz.underlying26 1 (by kernel_rfl) (by omega) strQ (fun cs n z g => str_read cs n z g) f2 w2
    obtain ⟨aa, ac, ax, rfl, s3, l3⟩ := In.rd_slice Tryz.underlying27 4 (by kernel_rfl) (by omega) actQ (fun cs n z g => act_read cs n z g) f3 w3
    simp only [List.getElem?_cons_zero, List.getElem?_cons_succ, Option.some.injEq] at e0 e1
    subst e0 e1
    have b0 := b_u32 u0
    refine ⟨⟨ea, ec, ia, ic, aa, ac⟩, ⟨x0, ex, k.data.toList, ix, ax⟩, rfl, ⟨?_, ?_, ?_⟩, ⟨b0.1, b0.2, fun x hx => ?_, ?_, fun t ht => ?_, fun a ha => ?_⟩⟩
    · exact sl_rd (f := fun x => [.int .u32 x]) (by omega) (fun _ => rfl) (fun g x hq j v hv => by
        match j, hv with
        | 0, hv => simp at hv; subst hv; exact hq.1
        | j + 1, hv => simp at hv) s1
    · exact sl_rd (f := fun x => [str x]) (by omega) (fun _ => rfl) (fun g x hq j v hv => by
        match j, hv with
        | 0, hv => simp at hv; subst hv; exact hq.1
        | j + 1, hv => simp at hv) s2
    · exact sl_rd (f := acC) (by omega) (fun _ => rfl) (fun g x hq j v hv => by
        match j, hv with
        | 0, hv => simp [acC] at hv; subst hv; exact hq.1.1
        | 1, hv => simp [acC] at hv; subst hv; exact hq.1.2.1
        | 2, hv => simp [acC] at hv; subst hv; exact hq.1.2.2.1
        | 3, hv => simp [acC] at hv; subst hv; exact hq.1.2.2.2
        | j + 4, hv => simp [acC] at hv) s3
    · obtain ⟨g, hg⟩ := sl_mem s1 x hx
      exact hg.2
    · show k.data.toList.length ≤ _
      rw [← size_eq]
      omega
    · obtain ⟨g, hg⟩ := sl_mem s2 t ht
      exact hg.2
    · obtain ⟨g, hg⟩ := sl_mem s3 a ha
      exact hg.2
end Go.Proofs.YtohlgcdailconaaGreatDoor.Scr
