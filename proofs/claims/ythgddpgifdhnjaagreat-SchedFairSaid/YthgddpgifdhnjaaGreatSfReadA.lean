/- How arguments that came in read: slices, structs, a state of layer 6. -/
import Derived.Deep.Slices
import Derived.Deep.Fields
import Derived.ChangeSame
import Derived.SizedLaws
import Derived.ChangeArms
import Derived.Below
import Derived.OpenShut
import Derived.Test.YthgddpgifdhnjaaGreatSnMade06
/- How an argument that came in reads: structs of one-cell fields, slices of such; and how large its strings may be. -/
namespace Go.Proofs.YthgddpgifdhnjaaGreat.Rd
open Go.ChangeShapes Go.WideShapes Go.Deep
section
variable {H : Type} {enc : TypeId × Value → H} {P : Program} {w : World} {base : Nat} {spare : Nat → Bool} {held : Bool}
/-- No string or slice in it is larger than the reach. -/
def Wt (P : Program) (t : TypeId) (d : DataW H) : Prop := ∀ n, n ∈ d.weights P t → n ≤ reachBytes
theorem wt_of {ts : List TypeId} {ds : List (DataW H)} (h : (DataW.weightsEach P ts ds).all (· ≤ reachBytes) = true) {j : Nat} {t : TypeId} {d : DataW H} (ht : ts[j]? = some t) (hd : ds[j]? = some d) : Wt P t d := by
  intro n hn
  have := List.all_eq_true.1 h n (DataW.weights_mem_each ht hd n hn)
  simpa using this
theorem wt_str {t : TypeId} {l : List UInt8} (h : Wt P t (.lit (.string l) : DataW H)) : l.length < 140737488355328 :=
  Nat.lt_of_le_of_lt (h l.length (by simp [DataW.weights])) (by decide)
theorem wt_field {t : TypeId} {fs : Array Field} (ht : P.underlying t = some (.struct fs)) {parts : List (DataW H)} (h : Wt P t (.agg parts)) {j : Nat} {f : Field} {d : DataW H} (hf : fs[j]? = some f) (hd : parts[j]? = some d) : Wt P f.type d := by
  intro n hn
  refine h n ?_
  simp only [DataW.weights, ht]
  exact DataW.weights_mem_each (by simpa using (show (fs.toList.map (·.type))[j]? = some f.type by simp [hf])) hd n hn
theorem mem_weightsAll {e : TypeId} {d : DataW H} {n : Nat} : ∀ {l : List (DataW H)}, d ∈ l → n ∈ d.weights P e → n ∈ DataW.weightsAll P e l
  | x :: r, hd, hn => by
    simp only [DataW.weightsAll, List.mem_append]
    rcases List.mem_cons.1 hd with rfl | h
    · exact .inl hn
    · exact .inr (mem_weightsAll h hn)
theorem wt_elem {t e : TypeId} (ht : P.underlying t = some (.slice e)) {elems sp : List (DataW H)} (h : Wt P t (.slice elems sp)) {d : DataW H} (hd : d ∈ elems) : Wt P e d := by
  intro n hn
  refine h n ?_
  simp only [DataW.weights, ht, List.mem_cons, List.mem_append]
  exact .inr (.inl (mem_weightsAll hd hn))
theorem wt_len {t e : TypeId} (ht : P.underlying t = some (.slice e)) {elems sp : List (DataW H)} (h : Wt P t (.slice elems sp)) : elems.length * P.bytesOf e < 140737488355328 := by
  have := h ((elems.length + sp.length) * P.bytesOf e) (by simp [DataW.weights, ht])
  have h2 : elems.length * P.bytesOf e ≤ (elems.length + sp.length) * P.bytesOf e := Nat.mul_le_mul_right _ (by omega)
  exact Nat.lt_of_le_of_lt (Nat.le_trans h2 this) (by decide)
variable {t : TypeId} {fuel : Nat} {v : Value} {y : DataW H × List MemPlace}
theorem rd_int {k : IntKind} (ht : P.underlying t = some (.int k)) (h : DataW.trod enc P w base spare held fuel t [v] = some y) : ∃ n, v = .int k n ∧ (Lit.int k n).wf = true := by
  obtain ⟨n, hc, _, hw⟩ := DataW.trod_int ht h
  simp at hc
  exact ⟨n, hc, hw⟩
theorem rd_bool (ht : P.underlying t = some .bool) (h : DataW.trod enc P w base spare held fuel t [v] = some y) : ∃ b, v = .bool b := by
  obtain ⟨n, hc, _⟩ := DataW.trod_bool ht h
  simp at hc
  exact ⟨n, hc⟩
theorem rd_str (ht : P.underlying t = some .string) (h : DataW.trod enc P w base spare held fuel t [v] = some y) (hw : Wt P t y.1) : ∃ s : ByteArray, v = .string s ∧ s.size < 140737488355328 := by
  obtain ⟨s, hc, rfl, _⟩ := DataW.trod_string ht h
  simp at hc
  have := wt_str hw
  rw [Array.length_toList] at this
  exact ⟨s, hc, this⟩
/-- A struct of one-cell fields: each field by itself. -/
theorem rd_struct {fs : Array Field} (ht : P.underlying t = some (.struct fs)) (hone : oneCellFields P fs = true) (hC : P.cellsOf t = fs.size) {cs : List Value} (h : DataW.trod enc P w base spare held fuel t cs = some y) (hw : Wt P t y.1) :
    cs.length = fs.size ∧ ∀ (j : Nat) (f : Field), fs[j]? = some f → ∃ (v : Value) (z : DataW H × List MemPlace) (n : Nat), cs[j]? = some v ∧ DataW.trod enc P w base spare held n f.type [v] = some z ∧ Wt P f.type z.1 := by
  obtain ⟨xs, n, _, rfl, hlen, hxl, hf⟩ := DataW.trod_struct ht h
  rw [hC] at hlen
  refine ⟨hlen, fun j f hj => ?_⟩
  obtain ⟨ho, hk⟩ := hone_of hone j f hj
  have hjl : j < fs.size := (Array.getElem?_eq_some_iff.1 hj).1
  have h1 := hf j f hj
  rw [ho, hk] at h1
  have hone' : (cs.drop j).take 1 = [cs[j]'(by omega)] := by
    rw [List.drop_eq_getElem_cons (by omega)]
    rfl
  rw [hone'] at h1
  have hys : xs[j]? = some (xs[j]'(by omega)) := List.getElem?_eq_getElem (by omega)
  exact ⟨_, _, n, List.getElem?_eq_getElem (by omega), h1.trans hys, wt_field ht hw hj (by rw [List.getElem?_map, hys]; rfl)⟩
theorem list_choose {X : Type} (n : Nat) (Q : Nat → X → Prop) (h : ∀ i, i < n → ∃ x, Q i x) : ∃ xs : List X, xs.length = n ∧ ∀ i x, xs[i]? = some x → Q i x := by
  induction n with
  | zero => exact ⟨[], rfl, fun i x hx => by simp at hx⟩
  | succ n ih =>
    obtain ⟨xs, hl, hx⟩ := ih fun i hi => h i (by omega)
    obtain ⟨x, hq⟩ := h n (by omega)
    refine ⟨xs ++ [x], by simp [hl], fun i y hy => ?_⟩
    by_cases hi : i < n
    · exact hx i y (by rwa [List.getElem?_append_left (by omega)] at hy)
    · rw [List.getElem?_append_right (by omega)] at hy
      have : i - xs.length = 0 := by
        rcases Nat.eq_zero_or_pos (i - xs.length) with g | g
        · exact g
        · rw [List.getElem?_eq_none (by simp; omega)] at hy; cases hy
      rw [this] at hy
      simp at hy
      obtain rfl : i = n := by omega
      exact hy ▸ hq
/-- A slice in memory: the cells of each element, C of them, are told by Q. -/
def Sl {X : Type} (w : World) (C : Nat) (Q : (Nat → Option Value) → X → Prop) (a : Option Addr) (cap : Nat) (xs : List X) : Prop :=
  xs.length ≤ cap ∧ cap ≤ maxLen ∧ (xs = [] ∨ ∃ b off, a = some ⟨b, off, none⟩ ∧ ∀ i x, xs[i]? = some x → Q (fun j => w.cell? ⟨b, off + i * C + j, none⟩) x) ∧ (a = none → cap = 0)
theorem rd_slice {e : TypeId} (ht : P.underlying t = some (.slice e)) (C : Nat) (hC : P.cellsOf e = C) (hC0 : 0 < C) {X : Type} (Q : (Nat → Option Value) → X → Prop)
    (hQ : ∀ (cs : List Value) (n : Nat) (z : DataW H × List MemPlace) (g : Nat → Option Value), DataW.trod enc P w base spare held n e cs = some z → Wt P e z.1 → cs.length = C → (∀ j, j < C → g j = cs[j]?) → ∃ x, Q g x)
    (h : DataW.trod enc P w base spare held fuel t [v] = some y) (hw : Wt P t y.1) :
    ∃ (a : Option Addr) (cap : Nat) (xs : List X), v = .slice a xs.length cap ∧ Sl w C Q a cap xs ∧ xs.length * P.bytesOf e < 140737488355328 := by
  rcases open_slice ht h with ⟨hc, _⟩ | ⟨a, len, cap, m, n, D, Pl, hcs, hb, hl, hm, hmm, rfl, hi⟩
  · simp at hc
    exact ⟨none, 0, [], hc, ⟨Nat.le_refl _, Nat.zero_le _, .inl rfl, fun _ => rfl⟩, by simp⟩
  · simp at hcs
    have hml : len ≤ m := by rw [hmm]; split <;> omega
    obtain ⟨b, off, spot⟩ := a
    have hsp : 0 < len → spot = none := by
      intro h0
      obtain ⟨cs', h1, h2⟩ := hi 0 (by omega)
      rw [hC] at h1
      obtain ⟨_, hcl, hat⟩ := World.cells?_some h1
      have := hat 0 hC0
      have hz : cs'[0]? = some (cs'[0]'(by omega)) := List.getElem?_eq_getElem (by omega)
      rw [hz] at this
      cases spot with
      | none => rfl
      | some s => simp [Addr.add, World.cell?] at this; split at this <;> simp at this
    obtain ⟨xs, hxl, hx⟩ := list_choose len (fun i x => Q (fun j => w.cell? ⟨b, off + i * C + j, none⟩) x) (fun i hi' => by
      obtain ⟨cs', h1, h2⟩ := hi i (by omega)
      rw [hC] at h1
      obtain ⟨_, hcl, hat⟩ := World.cells?_some h1
      refine hQ cs' n _ _ h2 (wt_elem ht hw (List.mem_map.2 ⟨i, List.mem_range.2 hi', rfl⟩)) hcl fun j hj => ?_
      have hs := hsp (by omega)
      subst hs
      rw [← hat j hj]
      congr 1
      unfold Addr.add
      by_cases e1 : i * C = 0
      · by_cases e2 : j = 0 <;> simp [e1, e2]
      · by_cases e2 : j = 0 <;> simp [e1, e2, Nat.add_assoc])
    have hlen : len = xs.length := hxl.symm
    have hwl := wt_len ht hw
    rw [List.length_map, List.length_range] at hwl
    rw [hlen] at hcs hwl hl
    refine ⟨_, cap, xs, hcs, ⟨hl, hm, ?_, fun h => by cases h⟩, hwl⟩
    cases xs with
    | nil => exact .inl rfl
    | cons x r =>
      have hs := hsp (by rw [hlen]; simp)
      subst hs
      exact .inr ⟨b, off, rfl, hx⟩
end
end Go.Proofs.YthgddpgifdhnjaaGreat.Rd
/- A state of layer 6 as an argument: how it reads. -/
namespace Go.Proofs.YthgddpgifdhnjaaGreat.Cp
open Go.RowKit
set_option linter.unusedSimpArgs false
set_option linter.unusedVariables false
structure St.pre (w : World) (x : St) : Prop where
  rrow : RowN .u32 w x.ra x.rn x.rf
  rbd : ∀ i, i < x.rn → 0 ≤ x.rf i ∧ x.rf i ≤ 4294967295
  rlen : x.rn ≤ 9223372036854775807
  p0 : 0 ≤ x.pc
  p1 : x.pc ≤ 4294967295
  prow : RowN .u8 w x.pa x.pn x.pf
  pbd : ∀ i, i < x.pn → 0 ≤ x.pf i ∧ x.pf i ≤ 255
  a0 : 0 ≤ x.at'
  a1 : x.at' ≤ 65535
  crow : Code w x.ca x.cn x.cf
  cbd : ∀ i, i < x.cn → (x.cf i).ok
  w0 : 0 ≤ x.wh
  w1 : x.wh ≤ 65535
def insQ (g : Nat → Option Value) (x : Ins) : Prop := (g 0 = some (.int .u8 x.op) ∧ g 1 = some (.int .u8 x.d) ∧ g 2 = some (.int .u8 x.a) ∧ g 3 = some (.int .u8 x.b) ∧ g 4 = some (.int .u32 x.imm)) ∧ x.ok
theorem bounds_u8' {n : Int} (h : (Lit.int .u8 n).wf = true) : 0 ≤ n ∧ n ≤ 255 := by
  simp [Lit.wf, IntKind.min, IntKind.max, IntKind.signed, IntKind.bits] at h
  omega
theorem bounds_u16' {n : Int} (h : (Lit.int .u16 n).wf = true) : 0 ≤ n ∧ n ≤ 65535 := by
  simp [Lit.wf, IntKind.min, IntKind.max, IntKind.signed, IntKind.bits] at h
  omega
theorem ins_read {H : Type} {enc : TypeId × Value → H} {w : World} {base : Nat} {spare : Nat → Bool} {held : Bool} (cs : List Value) (n : Nat) (z : DataW H × List MemPlace) (g : Nat → Option Value)
    (h : DataW.trod enc Tryz.prog w base spare held n 180 cs = some z) (hw : Rd.Wt Tryz.prog 180 z.1) (hl : cs.length = 5) (hg : ∀ j, j < 5 → g j = cs[j]?) : ∃ x : Ins, insQ g x := by
  obtain ⟨_, hs⟩ := Rd.rd_struct Tryz.underlying180 (by kernel_rfl) (by kernel_rfl) h hw
  obtain ⟨v0, z0, n0, e0, t0, q0⟩ := hs 0 _ rfl
  obtain ⟨x0, rfl, w0⟩ := Rd.rd_int Tryz.underlying5 t0
  obtain ⟨v1, z1, n1, e1, t1, q1⟩ := hs 1 _ rfl
  obtain ⟨x1, rfl, w1⟩ := Rd.rd_int Tryz.underlying5 t1
  obtain ⟨v2, z2, n2, e2, t2, q2⟩ := hs 2 _ rfl
  obtain ⟨x2, rfl, w2⟩ := Rd.rd_int Tryz.underlying5 t2
  obtain ⟨v3, z3, n3, e3, t3, q3⟩ := hs 3 _ rfl
  obtain ⟨x3, rfl, w3⟩ := Rd.rd_int Tryz.underlying5 t3
  obtain ⟨v4, z4, n4, e4, t4, q4⟩ := hs 4 _ rfl
  obtain ⟨x4, rfl, w4⟩ := Rd.rd_int Tryz.underlying62 t4
  have b0 := bounds_u8' w0
  have b1 := bounds_u8' w1
  have b2 := bounds_u8' w2
  have b3 := bounds_u8' w3
  have b4 := bounds_u32 w4
  exact ⟨⟨x0, x1, x2, x3, x4⟩, ⟨(hg 0 (by omega)).trans e0, (hg 1 (by omega)).trans e1, (hg 2 (by omega)).trans e2, (hg 3 (by omega)).trans e3, (hg 4 (by omega)).trans e4⟩, ⟨b0.1, b0.2, b1.1, b1.2, b2.1, b2.2, b3.1, b3.2, b4.1, b4.2⟩⟩
def numQ (k : IntKind) (g : Nat → Option Value) (x : Int) : Prop := g 0 = some (.int k x) ∧ (Lit.int k x).wf = true
theorem num_read {H : Type} {enc : TypeId × Value → H} {w : World} {base : Nat} {spare : Nat → Bool} {held : Bool} {k : IntKind} {t : TypeId} (ht : Tryz.prog.underlying t = some (.int k)) (cs : List Value) (n : Nat) (z : DataW H × List MemPlace) (g : Nat → Option Value)
    (h : DataW.trod enc Tryz.prog w base spare held n t cs = some z) (hw : Rd.Wt Tryz.prog t z.1) (hl : cs.length = 1) (hg : ∀ j, j < 1 → g j = cs[j]?) : ∃ x : Int, numQ k g x := by
  match cs, hl with
  | [v], _ =>
    obtain ⟨x, rfl, wx⟩ := Rd.rd_int ht h
    exact ⟨x, hg 0 (by omega), wx⟩
theorem sl_num {k : IntKind} {w : World} {a : Option Addr} {cap : Nat} {xs : List Int} (h : Rd.Sl w 1 (numQ k) a cap xs) : RowN k w a xs.length (fun i => xs.getD i 0) ∧ ∀ i, i < xs.length → (Lit.int k (xs.getD i 0)).wf = true := by
  obtain ⟨_, _, h, _⟩ := h
  rcases h with rfl | ⟨b, off, rfl, h⟩
  · exact ⟨fun g => absurd g (by simp), fun i hi => absurd hi (by simp)⟩
  · have hg : ∀ i, i < xs.length → xs[i]? = some (xs.getD i 0) := fun i hi => by rw [List.getD, List.getElem?_eq_getElem hi]; rfl
    have hc : ∀ i, i < xs.length → w.cell? ⟨b, off + i, none⟩ = some (.int k (xs.getD i 0)) := fun i hi => by
      have := (h i _ (hg i hi)).1
      simpa using this
    refine ⟨fun hn => ⟨b, off, rfl, ?_, hc⟩, fun i hi => (h i _ (hg i hi)).2⟩
    have := hc 0 hn
    unfold World.cell? at this
    cases hq : w.heap[b]? with
    | none => rw [hq] at this; cases this
    | some _ => exact lt_of_block hq
theorem sl_ins {w : World} {a : Option Addr} {cap : Nat} {xs : List Ins} (h : Rd.Sl w 5 insQ a cap xs) : Code w a xs.length (fun i => xs.getD i Ins.nix) ∧ ∀ i, i < xs.length → (xs.getD i Ins.nix).ok := by
  obtain ⟨_, _, h, _⟩ := h
  rcases h with rfl | ⟨b, off, rfl, h⟩
  · exact ⟨fun g => absurd g (by simp), fun i hi => absurd hi (by simp)⟩
  · have hg : ∀ i, i < xs.length → xs[i]? = some (xs.getD i Ins.nix) := fun i hi => by rw [List.getD, List.getElem?_eq_getElem hi]; rfl
    refine ⟨fun _ => ⟨b, off, rfl, fun i hi => ?_⟩, fun i hi => (h i _ (hg i hi)).2⟩
    obtain ⟨⟨c0, c1, c2, c3, c4⟩, _⟩ := h i _ (hg i hi)
    exact ⟨c0, c1, c2, c3, c4⟩
theorem state_read {H : Type} {enc : TypeId × Value → H} {w : World} {base : Nat} {spare : Nat → Bool} {held : Bool} (cs : List Value) (n : Nat) (z : DataW H × List MemPlace)
    (h : DataW.trod enc Tryz.prog w base spare held n 83 cs = some z) (hw : Rd.Wt Tryz.prog 83 z.1) (hl : cs.length = 7) : ∃ x : St, cs = x.cells.toList ∧ x.pre w := by
  obtain ⟨_, hs⟩ := Rd.rd_struct Tryz.underlying83 (by kernel_rfl) (by kernel_rfl) h hw
  obtain ⟨v0, z0, n0, e0, t0, q0⟩ := hs 0 _ rfl
  obtain ⟨a0, cap0, x0, rfl, s0, l0⟩ := Rd.rd_slice Tryz.underlying78 1 (by kernel_rfl) (by omega) (numQ .u32) (fun cs n z g => num_read Tryz.underlying62 cs n z g) t0 q0
  obtain ⟨v1, z1, n1, e1, t1, q1⟩ := hs 1 _ rfl
  obtain ⟨x1, rfl, w1⟩ := Rd.rd_int Tryz.underlying62 t1
  obtain ⟨v2, z2, n2, e2, t2, q2⟩ := hs 2 _ rfl
  obtain ⟨a2, cap2, x2, rfl, s2, l2⟩ := Rd.rd_slice Tryz.underlying22 1 (by kernel_rfl) (by omega) (numQ .u8) (fun cs n z g => num_read Tryz.underlying5 cs n z g) t2 q2
  obtain ⟨v3, z3, n3, e3, t3, q3⟩ := hs 3 _ rfl
  obtain ⟨x3, rfl, w3⟩ := Rd.rd_int Tryz.underlying23 t3
  obtain ⟨v4, z4, n4, e4, t4, q4⟩ := hs 4 _ rfl
  obtain ⟨a4, cap4, x4, rfl, s4, l4⟩ := Rd.rd_slice Tryz.underlying81 5 (by kernel_rfl) (by omega) insQ (fun cs n z g => ins_read cs n z g) t4 q4
  obtain ⟨v5, z5, n5, e5, t5, q5⟩ := hs 5 _ rfl
  obtain ⟨x5, rfl, w5⟩ := Rd.rd_int Tryz.underlying23 t5
  obtain ⟨v6, z6, n6, e6, t6, q6⟩ := hs 6 _ rfl
  obtain ⟨x6, rfl, w6⟩ := Rd.rd_str Tryz.underlying9 t6 q6
  have r0 := sl_num s0
  have r2 := sl_num s2
  have r4 := sl_ins s4
  have b1 := bounds_u32 w1
  have b3 := bounds_u16' w3
  have b5 := bounds_u16' w5
  have hlen : x0.length ≤ 9223372036854775807 := by have h1 := s0.1; have h2 := s0.2.1; unfold maxLen at h2; omega
  refine ⟨⟨a0, x0.length, cap0, fun i => x0.getD i 0, x1, a2, x2.length, cap2, fun i => x2.getD i 0, x3, a4, x4.length, cap4, fun i => x4.getD i Ins.nix, x5, x6⟩, ?_, ⟨r0.1, fun i hi => bounds_u32 (r0.2 i hi), hlen, b1.1, b1.2, r2.1, fun i hi => bounds_u8' (r2.2 i hi), b3.1, b3.2, r4.1, r4.2, b5.1, b5.2⟩⟩
  refine List.ext_getElem? fun j => ?_
  match j with
  | 0 => exact e0
  | 1 => exact e1
  | 2 => exact e2
  | 3 => exact e3
  | 4 => exact e4
  | 5 => exact e5
  | 6 => exact e6
  | j + 7 => rw [List.getElem?_eq_none (by omega), List.getElem?_eq_none (by simp [St.cells])]
end Go.Proofs.YthgddpgifdhnjaaGreat.Cp
