/- ReadA, HvyA, ExoH, ReadB, ExoT in one text. -/
import Derived.Deep.Slices
import Derived.Deep.Fields
import Derived.ChangeSame
import Derived.SizedLaws
import Derived.ChangeArms
import Derived.Below
import Derived.OpenShut
import Derived.Test.YtdmoohiepnbdaaaGreatEnMade06
import Derived.Test.YtdmoohiepnbdaaaGreatEnExoA
namespace Go.Proofs.YtdmoohiepnbdaaaGreat.Rd
open Go.ChangeShapes Go.WideShapes Go.Deep
section
variable {H : Type} {enc : TypeId × Value → H} {P : Program} {w : World} {base : Nat} {spare : Nat → Bool} {held : Bool}
def Wt (P : Program) (t : TypeId) (d : DataW H) : Prop := ∀ n, n ∈ d.weights P t → n ≤ reachBytes
theorem wt_of {ts : List TypeId} {ds : List (DataW H)} (h : (DataW.weightsEach P ts ds).all (· ≤ reachBytes) = true) {j : Nat} {t : TypeId} {d : DataW H} (ht : ts[j]? = some t) (hd : ds[j]? = some d) : Wt P t d := by
  intro n hn
  have := List.all_eq_true.1 h n (DataW.weights_mem_each ht hd n hn)
  simpa using this
theorem wt_str {t : TypeId} {l : List UInt8} (h : Wt P t (.lit (.string l) : DataW H)) : l.length < 140737488355328 :=
  Nat.lt_of_le_of_lt (h l.length (by simp [DataW.weights])) (by decide)
theorem wt_field {t : TypeId} {fs : Array Field} (ht : P.underlying t = some (.struct fs)) {parts : List (DataW H)} (h : Wt P t (.agg parts)) {j : Nat} {f : Field} {d : DataW H} (hf : fs[j]? = some f) (hd : parts[j]? = some d) : Wt P f.type d := by
  intro n hn
  refine h n ?_
  simp only [DataW.weights, ht]
  exact DataW.weights_mem_each (by simpa using (show (fs.toList.map (·.type))[j]? = some f.type by simp [hf])) hd n hn
theorem mem_weightsAll {e : TypeId} {d : DataW H} {n : Nat} : ∀ {l : List (DataW H)}, d ∈ l → n ∈ d.weights P e → n ∈ DataW.weightsAll P e l
  | x :: r, hd, hn => by
    simp only [DataW.weightsAll, List.mem_append]
    rcases List.mem_cons.1 hd with rfl | h
    · exact .inl hn
    · exact .inr (mem_weightsAll h hn)
theorem wt_elem {t e : TypeId} (ht : P.underlying t = some (.slice e)) {elems sp : List (DataW H)} (h : Wt P t (.slice elems sp)) {d : DataW H} (hd : d ∈ elems) : Wt P e d := by
  intro n hn
  refine h n ?_
  simp only [DataW.weights, ht, List.mem_cons, List.mem_append]
  exact .inr (.inl (mem_weightsAll hd hn))
theorem wt_len {t e : TypeId} (ht : P.underlying t = some (.slice e)) {elems sp : List (DataW H)} (h : Wt P t (.slice elems sp)) : elems.length * P.bytesOf e < 140737488355328 := by
  have := h ((elems.length + sp.length) * P.bytesOf e) (by simp [DataW.weights, ht])
  have h2 : elems.length * P.bytesOf e ≤ (elems.length + sp.length) * P.bytesOf e := Nat.mul_le_mul_right _ (by omega)
  exact Nat.lt_of_le_of_lt (Nat.le_trans h2 this) (by decide)
variable {t : TypeId} {fuel : Nat} {v : Value} {y : DataW H × List MemPlace}
theorem rd_int {k : IntKind} (ht : P.underlying t = some (.int k)) (h : DataW.trod enc P w base spare held fuel t [v] = some y) : ∃ n, v = .int k n ∧ (Lit.int k n).wf = true := by
  obtain ⟨n, hc, _, hw⟩ := DataW.trod_int ht h
  simp at hc
  exact ⟨n, hc, hw⟩
theorem rd_bool (ht : P.underlying t = some .bool) (h : DataW.trod enc P w base spare held fuel t [v] = some y) : ∃ b, v = .bool b := by
  obtain ⟨n, hc, _⟩ := DataW.trod_bool ht h
  simp at hc
  exact ⟨n, hc⟩
theorem rd_str (ht : P.underlying t = some .string) (h : DataW.trod enc P w base spare held fuel t [v] = some y) (hw : Wt P t y.1) : ∃ s : ByteArray, v = .string s ∧ s.size < 140737488355328 := by
  obtain ⟨s, hc, rfl, _⟩ := DataW.trod_string ht h
  simp at hc
  have := wt_str hw
  rw [Array.length_toList] at this
  exact ⟨s, hc, this⟩
theorem rd_struct {fs : Array Field} (ht : P.underlying t = some (.struct fs)) (hone : oneCellFields P fs = true) (hC : P.cellsOf t = fs.size) {cs : List Value} (h : DataW.trod enc P w base spare held fuel t cs = some y) (hw : Wt P t y.1) :
    cs.length = fs.size ∧ ∀ (j : Nat) (f : Field), fs[j]? = some f → ∃ (v : Value) (z : DataW H × List MemPlace) (n : Nat), cs[j]? = some v ∧ DataW.trod enc P w base spare held n f.type [v] = some z ∧ Wt P f.type z.1 := by
  obtain ⟨xs, n, _, rfl, hlen, hxl, hf⟩ := DataW.trod_struct ht h
  rw [hC] at hlen
  refine ⟨hlen, fun j f hj => ?_⟩
  obtain ⟨ho, hk⟩ := hone_of hone j f hj
  have hjl : j < fs.size := (Array.getElem?_eq_some_iff.1 hj).1
  have h1 := hf j f hj
  rw [ho, hk] at h1
  have hone' : (cs.drop j).take 1 = [cs[j]'(by omega)] := by
    rw [List.drop_eq_getElem_cons (by omega)]
    rfl
  rw [hone'] at h1
  have hys : xs[j]? = some (xs[j]'(by omega)) := List.getElem?_eq_getElem (by omega)
  exact ⟨_, _, n, List.getElem?_eq_getElem (by omega), h1.trans hys, wt_field ht hw hj (by rw [List.getElem?_map, hys]; rfl)⟩
theorem list_choose {X : Type} (n : Nat) (Q : Nat → X → Prop) (h : ∀ i, i < n → ∃ x, Q i x) : ∃ xs : List X, xs.length = n ∧ ∀ i x, xs[i]? = some x → Q i x := by
  induction n with
  | zero => exact ⟨[], rfl, fun i x hx => by simp at hx⟩
  | succ n ih =>
    obtain ⟨xs, hl, hx⟩ := ih fun i hi => h i (by omega)
    obtain ⟨x, hq⟩ := h n (by omega)
    refine ⟨xs ++ [x], by simp [hl], fun i y hy => ?_⟩
    by_cases hi : i < n
    · exact hx i y (by rwa [List.getElem?_append_left (by omega)] at hy)
    · rw [List.getElem?_append_right (by omega)] at hy
      have : i - xs.length = 0 := by
        rcases Nat.eq_zero_or_pos (i - xs.length) with g | g
        · exact g
        · rw [List.getElem?_eq_none (by simp; omega)] at hy; cases hy
      rw [this] at hy
      simp at hy
      obtain rfl : i = n := by omega
      exact hy ▸ hq
def Sl {X : Type} (w : World) (C : Nat) (Q : (Nat → Option Value) → X → Prop) (a : Option Addr) (cap : Nat) (xs : List X) : Prop :=
  xs.length ≤ cap ∧ cap ≤ maxLen ∧ (xs = [] ∨ ∃ b off, a = some ⟨b, off, none⟩ ∧ ∀ i x, xs[i]? = some x → Q (fun j => w.cell? ⟨b, off + i * C + j, none⟩) x) ∧ (a = none → cap = 0)
theorem rd_slice {e : TypeId} (ht : P.underlying t = some (.slice e)) (C : Nat) (hC : P.cellsOf e = C) (hC0 : 0 < C) {X : Type} (Q : (Nat → Option Value) → X → Prop)
    (hQ : ∀ (cs : List Value) (n : Nat) (z : DataW H × List MemPlace) (g : Nat → Option Value), DataW.trod enc P w base spare held n e cs = some z → Wt P e z.1 → cs.length = C → (∀ j, j < C → g j = cs[j]?) → ∃ x, Q g x)
    (h : DataW.trod enc P w base spare held fuel t [v] = some y) (hw : Wt P t y.1) :
    ∃ (a : Option Addr) (cap : Nat) (xs : List X), v = .slice a xs.length cap ∧ Sl w C Q a cap xs ∧ xs.length * P.bytesOf e < 140737488355328 := by
  rcases open_slice ht h with ⟨hc, _⟩ | ⟨a, len, cap, m, n, D, Pl, hcs, hb, hl, hm, hmm, rfl, hi⟩
  · simp at hc
    exact ⟨none, 0, [], hc, ⟨Nat.le_refl _, Nat.zero_le _, .inl rfl, fun _ => rfl⟩, by simp⟩
  · simp at hcs
    have hml : len ≤ m := by rw [hmm]; split <;> omega
    obtain ⟨b, off, spot⟩ := a
    have hsp : 0 < len → spot = none := by
      intro h0
      obtain ⟨cs', h1, h2⟩ := hi 0 (by omega)
      rw [hC] at h1
      obtain ⟨_, hcl, hat⟩ := World.cells?_some h1
      have := hat 0 hC0
      have hz : cs'[0]? = some (cs'[0]'(by omega)) := List.getElem?_eq_getElem (by omega)
      rw [hz] at this
      cases spot with
      | none => rfl
      | some s => simp [Addr.add, World.cell?] at this; split at this <;> simp at this
    obtain ⟨xs, hxl, hx⟩ := list_choose len (fun i x => Q (fun j => w.cell? ⟨b, off + i * C + j, none⟩) x) (fun i hi' => by
      obtain ⟨cs', h1, h2⟩ := hi i (by omega)
      rw [hC] at h1
      obtain ⟨_, hcl, hat⟩ := World.cells?_some h1
      refine hQ cs' n _ _ h2 (wt_elem ht hw (List.mem_map.2 ⟨i, List.mem_range.2 hi', rfl⟩)) hcl fun j hj => ?_
      have hs := hsp (by omega)
      subst hs
      rw [← hat j hj]
      congr 1
      unfold Addr.add
      by_cases e1 : i * C = 0
      · by_cases e2 : j = 0 <;> simp [e1, e2]
      · by_cases e2 : j = 0 <;> simp [e1, e2, Nat.add_assoc])
    have hlen : len = xs.length := hxl.symm
    have hwl := wt_len ht hw
    rw [List.length_map, List.length_range] at hwl
    rw [hlen] at hcs hwl hl
    refine ⟨_, cap, xs, hcs, ⟨hl, hm, ?_, fun h => by cases h⟩, hwl⟩
    cases xs with
    | nil => exact .inl rfl
    | cons x r =>
      have hs := hsp (by rw [hlen]; simp)
      subst hs
      exact .inr ⟨b, off, rfl, hx⟩
end
end Go.Proofs.YtdmoohiepnbdaaaGreat.Rd
namespace Go.Proofs.YtdmoohiepnbdaaaGreat.Cp
open Go.RowKit
set_option linter.unusedSimpArgs false
set_option linter.unusedVariables false
structure St.pre (w : World) (x : St) : Prop where
  rrow : RowN .u32 w x.ra x.rn x.rf
  rbd : ∀ i, i < x.rn → 0 ≤ x.rf i ∧ x.rf i ≤ 4294967295
  rlen : x.rn ≤ 9223372036854775807
  p0 : 0 ≤ x.pc
  p1 : x.pc ≤ 4294967295
  prow : RowN .u8 w x.pa x.pn x.pf
  pbd : ∀ i, i < x.pn → 0 ≤ x.pf i ∧ x.pf i ≤ 255
  a0 : 0 ≤ x.at'
  a1 : x.at' ≤ 65535
  crow : Code w x.ca x.cn x.cf
  cbd : ∀ i, i < x.cn → (x.cf i).ok
  w0 : 0 ≤ x.wh
  w1 : x.wh ≤ 65535
def insQ (g : Nat → Option Value) (x : Ins) : Prop := (g 0 = some (.int .u8 x.op) ∧ g 1 = some (.int .u8 x.d) ∧ g 2 = some (.int .u8 x.a) ∧ g 3 = some (.int .u8 x.b) ∧ g 4 = some (.int .u32 x.imm)) ∧ x.ok
theorem bounds_u8' {n : Int} (h : (Lit.int .u8 n).wf = true) : 0 ≤ n ∧ n ≤ 255 := by
  simp [Lit.wf, IntKind.min, IntKind.max, IntKind.signed, IntKind.bits] at h
  omega
theorem bounds_u16' {n : Int} (h : (Lit.int .u16 n).wf = true) : 0 ≤ n ∧ n ≤ 65535 := by
  simp [Lit.wf, IntKind.min, IntKind.max, IntKind.signed, IntKind.bits] at h
  omega
theorem ins_read {H : Type} {enc : TypeId × Value → H} {w : World} {base : Nat} {spare : Nat → Bool} {held : Bool} (cs : List Value) (n : Nat) (z : DataW H × List MemPlace) (g : Nat → Option Value)
    (h : DataW.trod enc Tryz.prog w base spare held n 148 cs = some z) (hw : Rd.Wt Tryz.prog 148 z.1) (hl : cs.length = 5) (hg : ∀ j, j < 5 → g j = cs[j]?) : ∃ x : Ins, insQ g x := by
  obtain ⟨_, hs⟩ := Rd.rd_struct Tryz.underlying148 (by kernel_rfl) (by kernel_rfl) h hw
  obtain ⟨v0, z0, n0, e0, t0, q0⟩ := hs 0 _ rfl
  obtain ⟨x0, rfl, w0⟩ := Rd.rd_int Tryz.underlying5 t0
  obtain ⟨v1, z1, n1, e1, t1, q1⟩ := hs 1 _ rfl
  obtain ⟨x1, rfl, w1⟩ := Rd.rd_int Tryz.underlying5 t1
  obtain ⟨v2, z2, n2, e2, t2, q2⟩ := hs 2 _ rfl
  obtain ⟨x2, rfl, w2⟩ := Rd.rd_int Tryz.underlying5 t2
  obtain ⟨v3, z3, n3, e3, t3, q3⟩ := hs 3 _ rfl
  obtain ⟨x3, rfl, w3⟩ := Rd.rd_int Tryz.underlying5 t3
  obtain ⟨v4, z4, n4, e4, t4, q4⟩ := hs 4 _ rfl
  obtain ⟨x4, rfl, w4⟩ := Rd.rd_int Tryz.underlying41 t4
  have b0 := bounds_u8' w0
  have b1 := bounds_u8' w1
  have b2 := bounds_u8' w2
  have b3 := bounds_u8' w3
  have b4 := bounds_u32 w4
  exact ⟨⟨x0, x1, x2, x3, x4⟩, ⟨(hg 0 (by omega)).trans e0, (hg 1 (by omega)).trans e1, (hg 2 (by omega)).trans e2, (hg 3 (by omega)).trans e3, (hg 4 (by omega)).trans e4⟩, ⟨b0.1, b0.2, b1.1, b1.2, b2.1, b2.2, b3.1, b3.2, b4.1, b4.2⟩⟩
def numQ (k : IntKind) (g : Nat → Option Value) (x : Int) : Prop := g 0 = some (.int k x) ∧ (Lit.int k x).wf = true
theorem num_read {H : Type} {enc : TypeId × Value → H} {w : World} {base : Nat} {spare : Nat → Bool} {held : Bool} {k : IntKind} {t : TypeId} (ht : Tryz.prog.underlying t = some (.int k)) (cs : List Value) (n : Nat) (z : DataW H × List MemPlace) (g : Nat → Option Value)
    (h : DataW.trod enc Tryz.prog w base spare held n t cs = some z) (hw : Rd.Wt Tryz.prog t z.1) (hl : cs.length = 1) (hg : ∀ j, j < 1 → g j = cs[j]?) : ∃ x : Int, numQ k g x := by
  match cs, hl with
  | [v], _ =>
    obtain ⟨x, rfl, wx⟩ := Rd.rd_int ht h
    exact ⟨x, hg 0 (by omega), wx⟩
theorem sl_num {k : IntKind} {w : World} {a : Option Addr} {cap : Nat} {xs : List Int} (h : Rd.Sl w 1 (numQ k) a cap xs) : RowN k w a xs.length (fun i => xs.getD i 0) ∧ ∀ i, i < xs.length → (Lit.int k (xs.getD i 0)).wf = true := by
  obtain ⟨_, _, h, _⟩ := h
  rcases h with rfl | ⟨b, off, rfl, h⟩
  · exact ⟨fun g => absurd g (by simp), fun i hi => absurd hi (by simp)⟩
  · have hg : ∀ i, i < xs.length → xs[i]? = some (xs.getD i 0) := fun i hi => by rw [List.getD, List.getElem?_eq_getElem hi]; rfl
    have hc : ∀ i, i < xs.length → w.cell? ⟨b, off + i, none⟩ = some (.int k (xs.getD i 0)) := fun i hi => by
      have := (h i _ (hg i hi)).1
      simpa using this
    refine ⟨fun hn => ⟨b, off, rfl, ?_, hc⟩, fun i hi => (h i _ (hg i hi)).2⟩
    have := hc 0 hn
    unfold World.cell? at this
    cases hq : w.heap[b]? with
    | none => rw [hq] at this; cases this
    | some _ => exact lt_of_block hq
theorem sl_ins {w : World} {a : Option Addr} {cap : Nat} {xs : List Ins} (h : Rd.Sl w 5 insQ a cap xs) : Code w a xs.length (fun i => xs.getD i Ins.nix) ∧ ∀ i, i < xs.length → (xs.getD i Ins.nix).ok := by
  obtain ⟨_, _, h, _⟩ := h
  rcases h with rfl | ⟨b, off, rfl, h⟩
  · exact ⟨fun g => absurd g (by simp), fun i hi => absurd hi (by simp)⟩
  · have hg : ∀ i, i < xs.length → xs[i]? = some (xs.getD i Ins.nix) := fun i hi => by rw [List.getD, List.getElem?_eq_getElem hi]; rfl
    refine ⟨fun _ => ⟨b, off, rfl, fun i hi => ?_⟩, fun i hi => (h i _ (hg i hi)).2⟩
    obtain ⟨⟨c0, c1, c2, c3, c4⟩, _⟩ := h i _ (hg i hi)
    exact ⟨c0, c1, c2, c3, c4⟩
theorem state_read {H : Type} {enc : TypeId × Value → H} {w : World} {base : Nat} {spare : Nat → Bool} {held : Bool} (cs : List Value) (n : Nat) (z : DataW H × List MemPlace)
    (h : DataW.trod enc Tryz.prog w base spare held n 63 cs = some z) (hw : Rd.Wt Tryz.prog 63 z.1) (hl : cs.length = 7) : ∃ x : St, cs = x.cells.toList ∧ x.pre w := by
  obtain ⟨_, hs⟩ := Rd.rd_struct Tryz.underlying63 (by kernel_rfl) (by kernel_rfl) h hw
  obtain ⟨v0, z0, n0, e0, t0, q0⟩ := hs 0 _ rfl
  obtain ⟨a0, cap0, x0, rfl, s0, l0⟩ := Rd.rd_slice Tryz.underlying57 1 (by kernel_rfl) (by omega) (numQ .u32) (fun cs n z g => num_read Tryz.underlying41 cs n z g) t0 q0
  obtain ⟨v1, z1, n1, e1, t1, q1⟩ := hs 1 _ rfl
  obtain ⟨x1, rfl, w1⟩ := Rd.rd_int Tryz.underlying41 t1
  obtain ⟨v2, z2, n2, e2, t2, q2⟩ := hs 2 _ rfl
  obtain ⟨a2, cap2, x2, rfl, s2, l2⟩ := Rd.rd_slice Tryz.underlying60 1 (by kernel_rfl) (by omega) (numQ .u8) (fun cs n z g => num_read Tryz.underlying5 cs n z g) t2 q2
  obtain ⟨v3, z3, n3, e3, t3, q3⟩ := hs 3 _ rfl
  obtain ⟨x3, rfl, w3⟩ := Rd.rd_int Tryz.underlying22 t3
  obtain ⟨v4, z4, n4, e4, t4, q4⟩ := hs 4 _ rfl
  obtain ⟨a4, cap4, x4, rfl, s4, l4⟩ := Rd.rd_slice Tryz.underlying61 5 (by kernel_rfl) (by omega) insQ (fun cs n z g => ins_read cs n z g) t4 q4
  obtain ⟨v5, z5, n5, e5, t5, q5⟩ := hs 5 _ rfl
  obtain ⟨x5, rfl, w5⟩ := Rd.rd_int Tryz.underlying22 t5
  obtain ⟨v6, z6, n6, e6, t6, q6⟩ := hs 6 _ rfl
  obtain ⟨x6, rfl, w6⟩ := Rd.rd_str Tryz.underlying9 t6 q6
  have r0 := sl_num s0
  have r2 := sl_num s2
  have r4 := sl_ins s4
  have b1 := bounds_u32 w1
  have b3 := bounds_u16' w3
  have b5 := bounds_u16' w5
  have hlen : x0.length ≤ 9223372036854775807 := by have h1 := s0.1; have h2 := s0.2.1; unfold maxLen at h2; omega
  refine ⟨⟨a0, x0.length, cap0, fun i => x0.getD i 0, x1, a2, x2.length, cap2, fun i => x2.getD i 0, x3, a4, x4.length, cap4, fun i => x4.getD i Ins.nix, x5, x6⟩, ?_, ⟨r0.1, fun i hi => bounds_u32 (r0.2 i hi), hlen, b1.1, b1.2, r2.1, fun i hi => bounds_u8' (r2.2 i hi), b3.1, b3.2, r4.1, r4.2, b5.1, b5.2⟩⟩
  refine List.ext_getElem? fun j => ?_
  match j with
  | 0 => exact e0
  | 1 => exact e1
  | 2 => exact e2
  | 3 => exact e3
  | 4 => exact e4
  | 5 => exact e5
  | 6 => exact e6
  | j + 7 => rw [List.getElem?_eq_none (by omega), List.getElem?_eq_none (by simp [St.cells])]
end Go.Proofs.YtdmoohiepnbdaaaGreat.Cp
namespace Go.Proofs.YtdmoohiepnbdaaaGreat
open Go.RowKit Word
set_option linter.unusedVariables false
set_option linter.unusedSimpArgs false
namespace Cp
def heavyV (x : St) : Bool := decide ((40 : Int) < x.rn) || decide ((16 : Int) < x.pn) || decide ((200 : Int) < x.cn) || decide ((2048 : Int) < x.text.size)
set_option maxRecDepth 100000 in
theorem heavy06 (w : World) (x : St) : Calls Tryz.prog 99 #[.agg x.cells] w fun e w' => e = .returned (.bool (heavyV x)) ∧ Below w.heap.size w w' := by
  have hb : Below w.heap.size w (w.alloc (.cells x.cells 63)) := (Below.refl _ _).alloc (Nat.le_refl _) _
  obtain ⟨b0, b1, b2, b3, b4, b5, b6⟩ := (⟨heap_alloc_new w _⟩ : StBox (w.alloc (.cells x.cells 63)) w.heap.size x).cells
  have HB := Lib.hid hb
  have HE : Hid (heavyV x = (decide ((40 : Int) < x.rn) || decide ((16 : Int) < x.pn) || decide ((200 : Int) < x.cn) || decide ((2048 : Int) < x.text.size))) := Lib.hid rfl
  generalize heavyV x = E at *
  unfold St.cells at *
  cases h1 : decide ((40 : Int) < x.rn) <;> cases h2 : decide ((16 : Int) < x.pn) <;> cases h3 : decide ((200 : Int) < x.cn) <;> cases h4 : decide ((2048 : Int) < x.text.size)
  all_goals
    go_enter Tryz.func99, Tryz.ntmps99
    go_wp2
    go_ret
    exact ⟨by rw [HE.out, h1, h2, h3, h4]; rfl, HB.out⟩
end Cp
end Go.Proofs.YtdmoohiepnbdaaaGreat
namespace Go.Proofs.YtdmoohiepnbdaaaGreat
open Go.RowKit
set_option linter.unusedVariables false
set_option linter.unusedSimpArgs false
namespace Xn
structure StpV where
  dod : Int
  env : Int
  n : Int
  m : MnV
  x : Cp.St
  t : ByteArray
def StpV.cells (s : StpV) : Array Value := #[.int .i64 s.dod, .int .i64 s.env, .int .i64 s.n, .int .u32 s.m.p, .slice s.m.a s.m.na s.m.ca, .slice s.m.b s.m.nb s.m.cb, .bool s.m.c, .slice s.x.ra s.x.rn s.x.rcap, .int .u32 s.x.pc, .slice s.x.pa s.x.pn s.x.pcap, .int .u16 s.x.at', .slice s.x.ca s.x.cn s.x.ccap, .int .u16 s.x.wh, .string s.x.text, .string s.t]
theorem stp_cells {w : World} {b : Nat} {s : StpV} (h : w.heap[b]? = some (.cells s.cells 73 (0, 0))) : w.cell? ⟨b, 0, none⟩ = some (.int .i64 s.dod) ∧ w.cell? ⟨b, 1, none⟩ = some (.int .i64 s.env) ∧ w.cell? ⟨b, 2, none⟩ = some (.int .i64 s.n) ∧ w.cell? ⟨b, 3, none⟩ = some (.int .u32 s.m.p) ∧ w.cell? ⟨b, 4, none⟩ = some (.slice s.m.a s.m.na s.m.ca) ∧ w.cell? ⟨b, 5, none⟩ = some (.slice s.m.b s.m.nb s.m.cb) ∧ w.cell? ⟨b, 6, none⟩ = some (.bool s.m.c) ∧ w.cell? ⟨b, 7, none⟩ = some (.slice s.x.ra s.x.rn s.x.rcap) ∧ w.cell? ⟨b, 8, none⟩ = some (.int .u32 s.x.pc) ∧ w.cell? ⟨b, 9, none⟩ = some (.slice s.x.pa s.x.pn s.x.pcap) ∧ w.cell? ⟨b, 10, none⟩ = some (.int .u16 s.x.at') ∧ w.cell? ⟨b, 11, none⟩ = some (.slice s.x.ca s.x.cn s.x.ccap) ∧ w.cell? ⟨b, 12, none⟩ = some (.int .u16 s.x.wh) ∧ w.cell? ⟨b, 13, none⟩ = some (.string s.x.text) ∧ w.cell? ⟨b, 14, none⟩ = some (.string s.t) := by
  refine ⟨?_, ?_, ?_, ?_, ?_, ?_, ?_, ?_, ?_, ?_, ?_, ?_, ?_, ?_, ?_⟩ <;> (unfold World.cell?; rw [h]; rfl)
set_option maxRecDepth 100000 in
set_option maxHeartbeats 4000000 in
theorem heavy23 (w : World) (s : StpV) (lb : Nat) (h : w.heap[lb]? = some (.cells s.cells 73 (0, 0))) : Calls Tryz.prog 23 #[.agg #[.int .u32 0, .slice none 0 0], .slice (some ⟨lb, 0, none⟩) 1 1] w fun e w' => (∃ b, e = .returned (.bool b)) ∧ Below w.heap.size w w' := by
  have hb := (Below.refl w.heap.size w).alloc (Nat.le_refl _) (.cells #[.int .u32 0, .slice none 0 0] 59)
  have hH := heap_alloc_new w (.cells #[.int .u32 0, .slice none 0 0] 59)
  have HB := Lib.hid hb
  have h1 := (hb.block lb (lt_of_block h)).trans h
  clear hb h
  have hc1 : (w.alloc (.cells #[.int .u32 0, .slice none 0 0] 59)).cell? ⟨w.heap.size, 1, none⟩ = some (.slice none 0 0) := by unfold World.cell?; rw [hH]; rfl
  clear hH
  go_enter Tryz.func23, Tryz.ntmps23
  go_wp2_with fail
  generalize w.alloc (.cells #[.int .u32 0, .slice none 0 0] 59) = w0 at *
  refine wp_loop_rounds 1 ?_
  rw [rounds_succ]
  go_wp2
  refine wp_loop_rounds 2 ?_
  rw [rounds_succ]
  have H1 := Lib.hid h1
  obtain ⟨s0, s1, s2, s3, s4, s5, s6, s7, s8, s9, s10, s11, s12, s13, s14⟩ := stp_cells h1
  clear h1
  go_wp2_with fail
  refine (large _ s.m).mono ?_
  rintro e w1 ⟨rfl, hb1⟩
  have h1 := (hb1.block lb (lt_of_block H1.out)).trans H1.out
  have HB1 := Lib.hid (below_th HB.out hb1)
  clear s0 s1 s2 s3 s4 s5 s6 s7 s8 s9 s10 s11 s12 s13 s14 H1
  have hc2 := keep hc1 hb1
  obtain ⟨s0, s1, s2, s3, s4, s5, s6, s7, s8, s9, s10, s11, s12, s13, s14⟩ := stp_cells h1
  have H1 := Lib.hid h1
  clear h1 hb1 hc1 HB
  generalize (decide (40 < s.m.na) || decide (40 < s.m.nb)) = L at *
  cases L with
  | true =>
    go_wp2
    go_ret
    exact ⟨⟨_, rfl⟩, HB1.out⟩
  | false =>
    go_wp2_with fail
    refine (Cp.heavy06 _ s.x).mono ?_
    rintro e w2 ⟨rfl, hb2⟩
    have h1 := (hb2.block lb (lt_of_block H1.out)).trans H1.out
    have HB2 := Lib.hid (below_th HB1.out hb2)
    clear s0 s1 s2 s3 s4 s5 s6 s7 s8 s9 s10 s11 s12 s13 s14 H1 HB1
    have hc3 := keep hc2 hb2
    obtain ⟨s0, s1, s2, s3, s4, s5, s6, s7, s8, s9, s10, s11, s12, s13, s14⟩ := stp_cells h1
    clear h1 hb2 hc2
    generalize Cp.heavyV s.x = V at *
    cases V with
    | true =>
      go_wp2
      go_ret
      exact ⟨⟨_, rfl⟩, HB2.out⟩
    | false =>
      by_cases ht : (300 : Int) < s.t.size
      · go_wp2
        go_ret
        exact ⟨⟨_, rfl⟩, HB2.out⟩
      · by_cases hd : s.dod = 3
        · by_cases hn : 0 < s.n
          · by_cases hm : s.n ≤ 65536
            · go_wp2
              rw [rounds_succ]
              by_cases hz : (200 : Int) < s.n / 20
              · have hz' : (Value.bool (decide (200 < s.n / 20))) = .bool true := by rw [decide_eq_true hz]
                go_wp2
                go_ret
                exact ⟨by simp [hz], HB2.out⟩
              · go_wp2
                go_ret
                exact ⟨by simp [hz], HB2.out⟩
            · go_wp2
              rw [rounds_succ]
              go_wp2
              go_ret
              exact ⟨⟨_, rfl⟩, HB2.out⟩
          · go_wp2
            rw [rounds_succ]
            go_wp2
            go_ret
            exact ⟨⟨_, rfl⟩, HB2.out⟩
        · go_wp2
          rw [rounds_succ]
          go_wp2
          go_ret
          exact ⟨⟨_, rfl⟩, HB2.out⟩
end Xn
end Go.Proofs.YtdmoohiepnbdaaaGreat
namespace Go.Proofs.YtdmoohiepnbdaaaGreat.Rd
open Go.ChangeShapes Go.WideShapes Go.Deep
section
variable {H : Type} {enc : TypeId × Value → H} {P : Program} {w : World} {base : Nat} {spare : Nat → Bool} {held : Bool}
variable {t : TypeId} {fuel : Nat} {v : Value} {y : DataW H × List MemPlace}
theorem rd_part {fs : Array Field} (ht : P.underlying t = some (.struct fs)) {cs : List Value} (h : DataW.trod enc P w base spare held fuel t cs = some y) (hw : Wt P t y.1) (j : Nat) (f : Field) (hj : fs[j]? = some f) :
    ∃ (z : DataW H × List MemPlace) (n : Nat), DataW.trod enc P w base spare held n f.type ((cs.drop f.offset).take (P.cellsOf f.type)) = some z ∧ Wt P f.type z.1 := by
  obtain ⟨xs, n, _, rfl, hlen, hxl, hf⟩ := DataW.trod_struct ht h
  have hjl : j < fs.size := (Array.getElem?_eq_some_iff.1 hj).1
  have hys : xs[j]? = some (xs[j]'(by omega)) := List.getElem?_eq_getElem (by omega)
  exact ⟨_, n, (hf j f hj).trans hys, wt_field ht hw hj (by rw [List.getElem?_map, hys]; rfl)⟩
end
end Go.Proofs.YtdmoohiepnbdaaaGreat.Rd
namespace Go.Proofs.YtdmoohiepnbdaaaGreat.Xn
open Go.RowKit
set_option linter.unusedSimpArgs false
set_option linter.unusedVariables false
structure MnI where
  p : Int
  ea : Option Addr
  ecap : Nat
  el : List (Int × Int)
  pa : Option Addr
  pcap : Nat
  pl : List Int
  con : Bool
def MnI.v (m : MnI) : MnV := ⟨m.p, m.ea, m.el.length, m.ecap, m.pa, m.pl.length, m.pcap, m.con⟩
def extQ (g : Nat → Option Value) (x : Int × Int) : Prop := (g 0 = some (.int .u32 x.1) ∧ g 1 = some (.int .u32 x.2)) ∧ (0 ≤ x.1 ∧ x.1 ≤ 4294967295) ∧ 0 ≤ x.2 ∧ x.2 ≤ 4294967295
structure MnI.pre (w : World) (m : MnI) : Prop where
  p0 : 0 ≤ m.p
  p1 : m.p ≤ 4294967295
  es : Rd.Sl w 2 extQ m.ea m.ecap m.el
  ps : Rd.Sl w 1 (Cp.numQ .u16) m.pa m.pcap m.pl
theorem ext_read {H : Type} {enc : TypeId × Value → H} {w : World} {base : Nat} {spare : Nat → Bool} {held : Bool} (cs : List Value) (n : Nat) (z : DataW H × List MemPlace) (g : Nat → Option Value)
    (h : DataW.trod enc Tryz.prog w base spare held n 272 cs = some z) (hw : Rd.Wt Tryz.prog 272 z.1) (hl : cs.length = 2) (hg : ∀ j, j < 2 → g j = cs[j]?) : ∃ x : Int × Int, extQ g x := by
  obtain ⟨_, hs⟩ := Rd.rd_struct Tryz.underlying272 (by kernel_rfl) (by kernel_rfl) h hw
  obtain ⟨v0, z0, n0, e0, t0, q0⟩ := hs 0 _ rfl
  obtain ⟨x0, rfl, w0⟩ := Rd.rd_int Tryz.underlying41 t0
  obtain ⟨v1, z1, n1, e1, t1, q1⟩ := hs 1 _ rfl
  obtain ⟨x1, rfl, w1⟩ := Rd.rd_int Tryz.underlying41 t1
  have b0 := bounds_u32 w0
  have b1 := bounds_u32 w1
  exact ⟨(x0, x1), ⟨(hg 0 (by omega)).trans e0, (hg 1 (by omega)).trans e1⟩, b0, b1⟩
theorem man_read {H : Type} {enc : TypeId × Value → H} {w : World} {base : Nat} {spare : Nat → Bool} {held : Bool} (cs : List Value) (n : Nat) (z : DataW H × List MemPlace)
    (h : DataW.trod enc Tryz.prog w base spare held n 45 cs = some z) (hw : Rd.Wt Tryz.prog 45 z.1) (hl : cs.length = 4) : ∃ m : MnI, cs = m.v.cells.toList ∧ m.pre w := by
  obtain ⟨_, hs⟩ := Rd.rd_struct Tryz.underlying45 (by kernel_rfl) (by kernel_rfl) h hw
  obtain ⟨v0, z0, n0, e0, t0, q0⟩ := hs 0 _ rfl
  obtain ⟨x0, rfl, w0⟩ := Rd.rd_int Tryz.underlying41 t0
  obtain ⟨v1, z1, n1, e1, t1, q1⟩ := hs 1 _ rfl
  obtain ⟨a1, cap1, x1, rfl, s1, l1⟩ := Rd.rd_slice Tryz.underlying42 2 (by kernel_rfl) (by omega) extQ (fun cs n z g => ext_read cs n z g) t1 q1
  obtain ⟨v2, z2, n2, e2, t2, q2⟩ := hs 2 _ rfl
  obtain ⟨a2, cap2, x2, rfl, s2, l2⟩ := Rd.rd_slice Tryz.underlying43 1 (by kernel_rfl) (by omega) (Cp.numQ .u16) (fun cs n z g => Cp.num_read Tryz.underlying22 cs n z g) t2 q2
  obtain ⟨v3, z3, n3, e3, t3, q3⟩ := hs 3 _ rfl
  obtain ⟨x3, rfl⟩ := Rd.rd_bool Tryz.underlying4 t3
  have b0 := bounds_u32 w0
  refine ⟨⟨x0, a1, cap1, x1, a2, cap2, x2, x3⟩, ?_, ⟨b0.1, b0.2, s1, s2⟩⟩
  refine List.ext_getElem? fun j => ?_
  match j with
  | 0 => exact e0
  | 1 => exact e1
  | 2 => exact e2
  | 3 => exact e3
  | j + 4 => rw [List.getElem?_eq_none (by omega), List.getElem?_eq_none (by simp [MnV.cells])]
structure StpI where
  dod : Int
  env : Int
  n : Int
  m : MnI
  x : Cp.St
  t : ByteArray
def StpI.v (s : StpI) : StpV := ⟨s.dod, s.env, s.n, s.m.v, s.x, s.t⟩
structure StpI.pre (w : World) (s : StpI) : Prop where
  d : -9223372036854775808 ≤ s.dod ∧ s.dod ≤ 9223372036854775807
  e : -9223372036854775808 ≤ s.env ∧ s.env ≤ 9223372036854775807
  n : -9223372036854775808 ≤ s.n ∧ s.n ≤ 9223372036854775807
  m : s.m.pre w
  x : s.x.pre w
  t : s.t.size < 140737488355328
theorem step_read {H : Type} {enc : TypeId × Value → H} {w : World} {base : Nat} {spare : Nat → Bool} {held : Bool} (cs : List Value) (n : Nat) (z : DataW H × List MemPlace)
    (h : DataW.trod enc Tryz.prog w base spare held n 73 cs = some z) (hw : Rd.Wt Tryz.prog 73 z.1) (hl : cs.length = 15) : ∃ s : StpI, cs = s.v.cells.toList ∧ s.pre w := by
  match cs, hl with
  | [c0, c1, c2, c3, c4, c5, c6, c7, c8, c9, c10, c11, c12, c13, c14], _ =>
    have hs := Rd.rd_part Tryz.underlying73 h hw
    obtain ⟨z0, n0, t0, q0⟩ := hs 0 _ rfl
    obtain ⟨z1, n1, t1, q1⟩ := hs 1 _ rfl
    obtain ⟨z2, n2, t2, q2⟩ := hs 2 _ rfl
    obtain ⟨z3, n3, t3, q3⟩ := hs 3 _ rfl
    obtain ⟨z4, n4, t4, q4⟩ := hs 4 _ rfl
    obtain ⟨z5, n5, t5, q5⟩ := hs 5 _ rfl
    have t0 : DataW.trod enc Tryz.prog w base spare held n0 3 (([c0, c1, c2, c3, c4, c5, c6, c7, c8, c9, c10, c11, c12, c13, c14].drop 0).take (Tryz.prog.cellsOf 3)) = some z0 := t0
    rw [show Tryz.prog.cellsOf 3 = 1 from by kernel_rfl] at t0
    have q0 : Rd.Wt Tryz.prog 3 z0.1 := q0
    have t1 : DataW.trod enc Tryz.prog w base spare held n1 3 (([c0, c1, c2, c3, c4, c5, c6, c7, c8, c9, c10, c11, c12, c13, c14].drop 1).take (Tryz.prog.cellsOf 3)) = some z1 := t1
    rw [show Tryz.prog.cellsOf 3 = 1 from by kernel_rfl] at t1
    have q1 : Rd.Wt Tryz.prog 3 z1.1 := q1
    have t2 : DataW.trod enc Tryz.prog w base spare held n2 3 (([c0, c1, c2, c3, c4, c5, c6, c7, c8, c9, c10, c11, c12, c13, c14].drop 2).take (Tryz.prog.cellsOf 3)) = some z2 := t2
    rw [show Tryz.prog.cellsOf 3 = 1 from by kernel_rfl] at t2
    have q2 : Rd.Wt Tryz.prog 3 z2.1 := q2
    have t3 : DataW.trod enc Tryz.prog w base spare held n3 45 (([c0, c1, c2, c3, c4, c5, c6, c7, c8, c9, c10, c11, c12, c13, c14].drop 3).take (Tryz.prog.cellsOf 45)) = some z3 := t3
    rw [show Tryz.prog.cellsOf 45 = 4 from by kernel_rfl] at t3
    have q3 : Rd.Wt Tryz.prog 45 z3.1 := q3
    have t4 : DataW.trod enc Tryz.prog w base spare held n4 63 (([c0, c1, c2, c3, c4, c5, c6, c7, c8, c9, c10, c11, c12, c13, c14].drop 7).take (Tryz.prog.cellsOf 63)) = some z4 := t4
    rw [show Tryz.prog.cellsOf 63 = 7 from by kernel_rfl] at t4
    have q4 : Rd.Wt Tryz.prog 63 z4.1 := q4
    have t5 : DataW.trod enc Tryz.prog w base spare held n5 9 (([c0, c1, c2, c3, c4, c5, c6, c7, c8, c9, c10, c11, c12, c13, c14].drop 14).take (Tryz.prog.cellsOf 9)) = some z5 := t5
    rw [show Tryz.prog.cellsOf 9 = 1 from by kernel_rfl] at t5
    have q5 : Rd.Wt Tryz.prog 9 z5.1 := q5
    obtain ⟨x0, rfl, w0⟩ := Rd.rd_int Tryz.underlying3 (v := c0) t0
    obtain ⟨x1, rfl, w1⟩ := Rd.rd_int Tryz.underlying3 (v := c1) t1
    obtain ⟨x2, rfl, w2⟩ := Rd.rd_int Tryz.underlying3 (v := c2) t2
    obtain ⟨m, hm, pm⟩ := man_read [c3, c4, c5, c6] n3 z3 t3 q3 rfl
    obtain ⟨x, hx, px⟩ := Cp.state_read [c7, c8, c9, c10, c11, c12, c13] n4 z4 t4 q4 rfl
    obtain ⟨x5, rfl, w5⟩ := Rd.rd_str Tryz.underlying9 (v := c14) t5 q5
    refine ⟨⟨x0, x1, x2, m, x, x5⟩, ?_, ⟨bounds_i64 w0, bounds_i64 w1, bounds_i64 w2, pm, px, w5⟩⟩
    show [_, _, _] ++ [c3, c4, c5, c6] ++ [c7, c8, c9, c10, c11, c12, c13] ++ [_] = _
    rw [hm, hx]
    rfl
end Go.Proofs.YtdmoohiepnbdaaaGreat.Xn
namespace Go.Proofs.YtdmoohiepnbdaaaGreat
open Go.RowKit
set_option linter.unusedVariables false
set_option linter.unusedSimpArgs false
namespace Xn
theorem start_none (w : World) (xb : Nat) (i p : Int) : Calls Tryz.prog 31 #[.pointer (some ⟨xb, 0, none⟩), .int .i64 i, .pointer none, .int .u32 p] w fun e w' => e = .returned (.int .i64 1) ∧ w = w' := by
  go_enter Tryz.func31, Tryz.ntmps31
  go_wp2
  go_ret
  exact ⟨rfl, rfl⟩
def st0 : Cp.St := ⟨none, 0, 0, fun _ => 0, 0, none, 0, 0, fun _ => 0, 0, none, 0, 0, fun _ => Ins.nix, 0, ByteArray.empty⟩
theorem st0_ok (w : World) : st0.ok w where
  rrow := fun h => absurd h (Nat.not_lt_zero _)
  rbd := fun i hi => absurd hi (Nat.not_lt_zero _)
  rlen := by decide
  p0 := by decide
  p1 := by decide
  prow := fun h => absurd h (Nat.not_lt_zero _)
  pbd := fun i hi => absurd hi (Nat.not_lt_zero _)
  plen := by decide
  a0 := by decide
  a1 := by decide
  crow := fun h => absurd h (Nat.not_lt_zero _)
  cbd := fun i hi => absurd hi (Nat.not_lt_zero _)
  clen := by decide
  w0 := by decide
  w1 := by decide
  tlen := by decide
def SB (w : World) (b : Nat) (s : StpV) : Prop := w.heap[b]? = some (.cells s.cells 73 (0, 0))
theorem SB.below {w w' : World} {b : Nat} {s : StpV} (h : SB w b s) (hb : Below w.heap.size w w') : SB w' b s := (hb.block _ (lt_of_block h)).trans h
def MB (w : World) (b : Nat) : Prop := w.heap[b]? = some (.cells #[.int .u32 0, .slice none 0 0, .slice none 0 0, .bool false] 45 (0, 0))
theorem MB.below {w w' : World} {b : Nat} (h : MB w b) (hb : Below w.heap.size w w') : MB w' b := (hb.block _ (lt_of_block h)).trans h
theorem MB.cell {w : World} {b : Nat} (h : MB w b) : w.cell? ⟨b, 0, none⟩ = some (.int .u32 0) := by unfold World.cell?; rw [h]; rfl
set_option maxRecDepth 100000 in
set_option maxHeartbeats 16000000 in
theorem exoNil (w : World) (s : StpV) : Calls Tryz.prog 5 #[.agg s.cells] w fun e w' => e = .returned (.bool true) ∧ Below w.heap.size w w' := by
  have hb0 := (Below.refl w.heap.size w).alloc (Nat.le_refl _) (.cells s.cells 73)
  have hk0 := heap_alloc_new w (.cells s.cells 73)
  have hb1 := hb0.alloc hb0.size (.cells s.cells 73)
  have hk1 := heap_alloc_new (w.alloc (.cells s.cells 73)) (.cells s.cells 73)
  have hk01 := (Below.heap_alloc (w.alloc (.cells s.cells 73)) (.cells s.cells 73) _ (lt_of_block hk0)).trans hk0
  rw [show (w.alloc (.cells s.cells 73)).heap.size = w.heap.size + 1 by simp] at hk1
  have HHv := Lib.hid (heavy23 _ s (w.heap.size + 1) hk1)
  have HB1 := Lib.hid hb1
  have HS1 := Lib.hid (show SB _ w.heap.size s from hk01)
  obtain ⟨s0, s1, s2, s3, s4, s5, s6, s7, s8, s9, s10, s11, s12, s13, s14⟩ := stp_cells hk0
  unfold StpV.cells at *
  clear hb0 hk0 hb1 hk1 hk01
  go_enter Tryz.func5, Tryz.ntmps5
  go_wp2_with fail
  refine HHv.out.mono ?_
  rintro e w2 ⟨⟨b, rfl⟩, hb2⟩
  have HB2 := Lib.hid (below_th HB1.out hb2)
  have HS2 := Lib.hid (HS1.out.below hb2)
  clear hb2 s0 s1 s2 s3 s4 s5 s6 s7 s8 s9 s10 s11 s12 s13 s14 HHv HB1 HS1
  cases b with
  | true =>
    go_wp2_with fail
    refine (Ex.alive23 _).mono ?_
    rintro e w3 ⟨rfl, hb3⟩
    have HB3 := Lib.hid (below_th HB2.out hb3)
    clear hb3
    go_wp2
    go_ret
    exact ⟨rfl, HB3.out⟩
  | false =>
    obtain ⟨s0, s1, s2, s3, s4, s5, s6, s7, s8, s9, s10, s11, s12, s13, s14⟩ := stp_cells HS2.out
    go_wp2_with fail
    refine (admit _ _ _).mono ?_
    rintro e w3 ⟨rfl, hb3⟩
    have HB3 := Lib.hid (below_th HB2.out hb3)
    have HS3 := Lib.hid (HS2.out.below hb3)
    clear hb3 s0 s1 s2 s3 s4 s5 s6 s7 s8 s9 s10 s11 s12 s13 s14 HB2 HS2
    obtain ⟨s0, s1, s2, s3, s4, s5, s6, s7, s8, s9, s10, s11, s12, s13, s14⟩ := stp_cells HS3.out
    clear s0 s3 s4 s5 s6 s7 s8 s9 s10 s11 s12 s13
    go_wp2_with fail
    refine (run _ _ _).mono ?_
    rintro e w4 ⟨rfl, rfl⟩
    go_wp2_with fail
    refine (block _ _ _).mono ?_
    rintro e w4 ⟨rfl, rfl⟩
    go_wp2_with fail
    refine (bound _ _).mono ?_
    rintro e w4 ⟨rfl, hb4⟩
    have hal := hb4.alloc hb4.size (.cells #[.int .u32 0, .slice none 0 0, .slice none 0 0, .bool false] 45)
    have HM5 := Lib.hid (show MB _ w4.heap.size from heap_alloc_new w4 _)
    have HB5 := Lib.hid (below_th HB3.out hal)
    have HS5 := Lib.hid (HS3.out.below hal)
    clear hal hb4 s1 s2 s14 HB3 HS3
    have HMd := Lib.hid fun V => Cp.made V st0 (st0_ok V)
    unfold st0 Cp.St.cells at HMd
    go_wp2_with fail
    refine (HMd.out _).mono ?_
    rintro e w6 ⟨qc, qs, qm, QA, qd, qr, qlv, QR, rfl, hduo, _, _⟩
    have HB6 := Lib.hid (below_th HB5.out hduo.bel)
    have HS6 := Lib.hid (HS5.out.below hduo.bel)
    have HM6 := Lib.hid (HM5.out.below hduo.bel)
    clear hduo HMd HB5 HS5 HM5
    go_wp2_with fail
    refine (Ex.new w6 (hp := 0) (by decide) (by decide)).mono ?_
    rintro e w7 ⟨yb, ka, rfl, _, _, _, _, _, hb7⟩
    have HB7 := Lib.hid (below_th HB6.out hb7)
    have HS7 := Lib.hid (HS6.out.below hb7)
    have HM7 := Lib.hid (HM6.out.below hb7)
    clear hb7 HB6 HS6 HM6
    obtain ⟨s0, s1, s2, s3, s4, s5, s6, s7, s8, s9, s10, s11, s12, s13, s14⟩ := stp_cells HS7.out
    have m0 := HM7.out.cell
    clear s0 s3 s4 s5 s6 s7 s8 s9 s10 s11 s12 s13
    go_wp2_with fail
    refine (start _ _ _ _).mono ?_
    rintro e w8 ⟨rfl, rfl⟩
    go_wp2_with fail
    refine (start_none _ _ _ _).mono ?_
    rintro e w8 ⟨rfl, rfl⟩
    go_wp2_with fail
    refine (release _ _).mono ?_
    rintro e w8 ⟨rfl, rfl⟩
    go_wp2_with fail
    refine (tick _).mono ?_
    rintro e w8 ⟨rfl, rfl⟩
    go_wp2_with fail
    refine (arrive _ _).mono ?_
    rintro e w8 ⟨rfl, rfl⟩
    go_wp2_with fail
    refine (swap _ _).mono ?_
    rintro e w8 ⟨rfl, rfl⟩
    go_wp2_with fail
    refine (lose _ _).mono ?_
    rintro e w8 ⟨rfl, rfl⟩
    go_wp2_with fail
    refine (state _ _).mono ?_
    rintro e w8 ⟨rfl, hb8⟩
    have HB8 := Lib.hid (below_th HB7.out hb8)
    have HS8 := Lib.hid (HS7.out.below hb8)
    clear hb8 s1 s2 s14 m0 HM7 HB7 HS7
    obtain ⟨s0, s1, s2, s3, s4, s5, s6, s7, s8, s9, s10, s11, s12, s13, s14⟩ := stp_cells HS8.out
    clear s0 s3 s4 s5 s6 s7 s8 s9 s10 s11 s12 s13
    go_wp2_with fail
    refine (cpu _ _).mono ?_
    rintro e w9 ⟨rfl, rfl⟩
    go_wp2_with fail
    refine (space _ _).mono ?_
    rintro e w9 ⟨rfl, rfl⟩
    go_wp2_with fail
    refine (console _ _).mono ?_
    rintro e w9 ⟨rfl, rfl⟩
    go_wp2_with fail
    refine (left _ _).mono ?_
    rintro e w9 ⟨rfl, hb9⟩
    have HB9 := Lib.hid (below_th HB8.out hb9)
    clear hb9 s1 s2 s14 HS8 HB8
    go_wp2_with fail
    refine (free _).mono ?_
    rintro e w10 ⟨rfl, rfl⟩
    go_wp2_with fail
    refine (setBlock _ _ _ _).mono ?_
    rintro e w10 ⟨rfl, rfl⟩
    go_wp2_with fail
    refine (now _).mono ?_
    rintro e w10 ⟨rfl, rfl⟩
    go_wp2_with fail
    refine (trace _).mono ?_
    rintro e w10 ⟨rfl, rfl⟩
    go_wp2_with fail
    refine (copy _).mono ?_
    rintro e w10 ⟨rfl, rfl⟩
    go_wp2_with fail
    refine (Ex.alive23 _).mono ?_
    rintro e w10 ⟨rfl, hb10⟩
    have HB10 := Lib.hid (below_th HB9.out hb10)
    clear hb10
    go_wp2
    go_ret
    exact ⟨rfl, HB10.out⟩
end Xn
theorem Cp.exoNilL (w : World) (s : Xn.StpI) (_ : s.pre w) : Calls Tryz.prog 5 #[.agg s.v.cells] w fun e w' => e = .returned (.bool true) ∧ Below w.heap.size w w' := Xn.exoNil w s.v
end Go.Proofs.YtdmoohiepnbdaaaGreat
