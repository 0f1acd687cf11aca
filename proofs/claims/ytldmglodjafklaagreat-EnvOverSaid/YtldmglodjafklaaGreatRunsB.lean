/- RunsB: Read, Alive06, Runs, RunsB, State06 in one text. -/
import Derived.Deep.Slices
import Derived.Deep.Fields
import Derived.ChangeSame
import Derived.SizedLaws
import Derived.ChangeArms
import Derived.Below
import Derived.Test.YtldmglodjafklaaGreatMade06
import Derived.Test.YtldmglodjafklaaGreatCpuW
import Derived.Test.YtldmglodjafklaaGreatStepD
import Derived.Test.YtldmglodjafklaaGreatSame05
import Derived.Laws.StructEq
import Derived.OpenShut
/- How an argument that came in reads: structs of one-cell fields, slices of such; and how large its strings may be. -/
namespace Go.Proofs.YtldmglodjafklaaGreat.Rd
open Go.ChangeShapes Go.WideShapes Go.Deep
section
variable {H : Type} {enc : TypeId × Value → H} {P : Program} {w : World} {base : Nat} {spare : Nat → Bool} {held : Bool}
/-- No string or slice in it is larger than the reach. -/
def Wt (P : Program) (t : TypeId) (d : DataW H) : Prop := ∀ n, n ∈ d.weights P t → n ≤ reachBytes
theorem wt_of {ts : List TypeId} {ds : List (DataW H)} (h : (DataW.weightsEach P ts ds).all (· ≤ reachBytes) = true) {j : Nat} {t : TypeId} {d : DataW H} (ht : ts[j]? = some t) (hd : ds[j]? = some d) : Wt P t d := by
  intro n hn
  have := List.all_eq_true.1 h n (DataW.weights_mem_each ht hd n hn)
  simpa using this
theorem wt_str {t : TypeId} {l : List UInt8} (h : Wt P t (.lit (.string l) : DataW H)) : l.length < 140737488355328 :=
  Nat.lt_of_le_of_lt (h l.length (by simp [DataW.weights])) (by decide)
theorem wt_field {t : TypeId} {fs : Array Field} (ht : P.underlying t = some (.struct fs)) {parts : List (DataW H)} (h : Wt P t (.agg parts)) {j : Nat} {f : Field} {d : DataW H} (hf : fs[j]? = some f) (hd : parts[j]? = some d) : Wt P f.type d := by
  intro n hn
  refine h n ?_
  simp only [DataW.weights, ht]
  exact DataW.weights_mem_each (by simpa using (show (fs.toList.map (·.type))[j]? = some f.type by simp [hf])) hd n hn
theorem mem_weightsAll {e : TypeId} {d : DataW H} {n : Nat} : ∀ {l : List (DataW H)}, d ∈ l → n ∈ d.weights P e → n ∈ DataW.weightsAll P e l
  | x :: r, hd, hn => by
    simp only [DataW.weightsAll, List.mem_append]
    rcases List.mem_cons.1 hd with rfl | h
    · exact .inl hn
    · exact .inr (mem_weightsAll h hn)
theorem wt_elem {t e : TypeId} (ht : P.underlying t = some (.slice e)) {elems sp : List (DataW H)} (h : Wt P t (.slice elems sp)) {d : DataW H} (hd : d ∈ elems) : Wt P e d := by
  intro n hn
  refine h n ?_
  simp only [DataW.weights, ht, List.mem_cons, List.mem_append]
  exact .inr (.inl (mem_weightsAll hd hn))
theorem wt_len {t e : TypeId} (ht : P.underlying t = some (.slice e)) {elems sp : List (DataW H)} (h : Wt P t (.slice elems sp)) : elems.length * P.bytesOf e < 140737488355328 := by
  have := h ((elems.length + sp.length) * P.bytesOf e) (by simp [DataW.weights, ht])
  have h2 : elems.length * P.bytesOf e ≤ (elems.length + sp.length) * P.bytesOf e := Nat.mul_le_mul_right _ (by omega)
  exact Nat.lt_of_le_of_lt (Nat.le_trans h2 this) (by decide)
variable {t : TypeId} {fuel : Nat} {v : Value} {y : DataW H × List MemPlace}
theorem rd_int {k : IntKind} (ht : P.underlying t = some (.int k)) (h : DataW.trod enc P w base spare held fuel t [v] = some y) : ∃ n, v = .int k n ∧ (Lit.int k n).wf = true := by
  obtain ⟨n, hc, _, hw⟩ := DataW.trod_int ht h
  simp at hc
  exact ⟨n, hc, hw⟩
theorem rd_bool (ht : P.underlying t = some .bool) (h : DataW.trod enc P w base spare held fuel t [v] = some y) : ∃ b, v = .bool b := by
  obtain ⟨n, hc, _⟩ := DataW.trod_bool ht h
  simp at hc
  exact ⟨n, hc⟩
theorem rd_str (ht : P.underlying t = some .string) (h : DataW.trod enc P w base spare held fuel t [v] = some y) (hw : Wt P t y.1) : ∃ s : ByteArray, v = .string s ∧ s.size < 140737488355328 := by
  obtain ⟨s, hc, rfl, _⟩ := DataW.trod_string ht h
  simp at hc
  have := wt_str hw
  rw [Array.length_toList] at this
  exact ⟨s, hc, this⟩
/-- A struct of one-cell fields: each field by itself. -/
theorem rd_struct {fs : Array Field} (ht : P.underlying t = some (.struct fs)) (hone : oneCellFields P fs = true) (hC : P.cellsOf t = fs.size) {cs : List Value} (h : DataW.trod enc P w base spare held fuel t cs = some y) (hw : Wt P t y.1) :
    cs.length = fs.size ∧ ∀ (j : Nat) (f : Field), fs[j]? = some f → ∃ (v : Value) (z : DataW H × List MemPlace) (n : Nat), cs[j]? = some v ∧ DataW.trod enc P w base spare held n f.type [v] = some z ∧ Wt P f.type z.1 := by
  obtain ⟨xs, n, _, rfl, hlen, hxl, hf⟩ := DataW.trod_struct ht h
  rw [hC] at hlen
  refine ⟨hlen, fun j f hj => ?_⟩
  obtain ⟨ho, hk⟩ := hone_of hone j f hj
  have hjl : j < fs.size := (Array.getElem?_eq_some_iff.1 hj).1
  have h1 := hf j f hj
  rw [ho, hk] at h1
  have hone' : (cs.drop j).take 1 = [cs[j]'(by omega)] := by
    rw [List.drop_eq_getElem_cons (by omega)]
    rfl
  rw [hone'] at h1
  have hys : xs[j]? = some (xs[j]'(by omega)) := List.getElem?_eq_getElem (by omega)
  exact ⟨_, _, n, List.getElem?_eq_getElem (by omega), h1.trans hys, wt_field ht hw hj (by rw [List.getElem?_map, hys]; rfl)⟩
theorem list_choose {X : Type} (n : Nat) (Q : Nat → X → Prop) (h : ∀ i, i < n → ∃ x, Q i x) : ∃ xs : List X, xs.length = n ∧ ∀ i x, xs[i]? = some x → Q i x := by
  induction n with
  | zero => exact ⟨[], rfl, fun i x hx => by simp at hx⟩
  | succ n ih =>
    obtain ⟨xs, hl, hx⟩ := ih fun i hi => h i (by omega)
    obtain ⟨x, hq⟩ := h n (by omega)
    refine ⟨xs ++ [x], by simp [hl], fun i y hy => ?_⟩
    by_cases hi : i < n
    · exact hx i y (by rwa [List.getElem?_append_left (by omega)] at hy)
    · rw [List.getElem?_append_right (by omega)] at hy
      have : i - xs.length = 0 := by
        rcases Nat.eq_zero_or_pos (i - xs.length) with g | g
        · exact g
        · rw [List.getElem?_eq_none (by simp; omega)] at hy; cases hy
      rw [this] at hy
      simp at hy
      obtain rfl : i = n := by omega
      exact hy ▸ hq
/-- A slice in memory: the cells of each element, C of them, are told by Q. -/
def Sl {X : Type} (w : World) (C : Nat) (Q : (Nat → Option Value) → X → Prop) (a : Option Addr) (cap : Nat) (xs : List X) : Prop :=
  xs.length ≤ cap ∧ cap ≤ maxLen ∧ (xs = [] ∨ ∃ b off, a = some ⟨b, off, none⟩ ∧ ∀ i x, xs[i]? = some x → Q (fun j => w.cell? ⟨b, off + i * C + j, none⟩) x) ∧ (a = none → cap = 0)
theorem rd_slice {e : TypeId} (ht : P.underlying t = some (.slice e)) (C : Nat) (hC : P.cellsOf e = C) (hC0 : 0 < C) {X : Type} (Q : (Nat → Option Value) → X → Prop)
    (hQ : ∀ (cs : List Value) (n : Nat) (z : DataW H × List MemPlace) (g : Nat → Option Value), DataW.trod enc P w base spare held n e cs = some z → Wt P e z.1 → cs.length = C → (∀ j, j < C → g j = cs[j]?) → ∃ x, Q g x)
    (h : DataW.trod enc P w base spare held fuel t [v] = some y) (hw : Wt P t y.1) :
    ∃ (a : Option Addr) (cap : Nat) (xs : List X), v = .slice a xs.length cap ∧ Sl w C Q a cap xs ∧ xs.length * P.bytesOf e < 140737488355328 := by
  rcases open_slice ht h with ⟨hc, _⟩ | ⟨a, len, cap, m, n, D, Pl, hcs, hb, hl, hm, hmm, rfl, hi⟩
  · simp at hc
    exact ⟨none, 0, [], hc, ⟨Nat.le_refl _, Nat.zero_le _, .inl rfl, fun _ => rfl⟩, by simp⟩
  · simp at hcs
    have hml : len ≤ m := by rw [hmm]; split <;> omega
    obtain ⟨b, off, spot⟩ := a
    have hsp : 0 < len → spot = none := by
      intro h0
      obtain ⟨cs', h1, h2⟩ := hi 0 (by omega)
      rw [hC] at h1
      obtain ⟨_, hcl, hat⟩ := World.cells?_some h1
      have := hat 0 hC0
      have hz : cs'[0]? = some (cs'[0]'(by omega)) := List.getElem?_eq_getElem (by omega)
      rw [hz] at this
      cases spot with
      | none => rfl
      | some s => simp [Addr.add, World.cell?] at this; split at this <;> simp at this
    obtain ⟨xs, hxl, hx⟩ := list_choose len (fun i x => Q (fun j => w.cell? ⟨b, off + i * C + j, none⟩) x) (fun i hi' => by
      obtain ⟨cs', h1, h2⟩ := hi i (by omega)
      rw [hC] at h1
      obtain ⟨_, hcl, hat⟩ := World.cells?_some h1
      refine hQ cs' n _ _ h2 (wt_elem ht hw (List.mem_map.2 ⟨i, List.mem_range.2 hi', rfl⟩)) hcl fun j hj => ?_
      have hs := hsp (by omega)
      subst hs
      rw [← hat j hj]
      congr 1
      unfold Addr.add
      by_cases e1 : i * C = 0
      · by_cases e2 : j = 0 <;> simp [e1, e2]
      · by_cases e2 : j = 0 <;> simp [e1, e2, Nat.add_assoc])
    have hlen : len = xs.length := hxl.symm
    have hwl := wt_len ht hw
    rw [List.length_map, List.length_range] at hwl
    rw [hlen] at hcs hwl hl
    refine ⟨_, cap, xs, hcs, ⟨hl, hm, ?_, fun h => by cases h⟩, hwl⟩
    cases xs with
    | nil => exact .inl rfl
    | cons x r =>
      have hs := hsp (by rw [hlen]; simp)
      subst hs
      exact .inr ⟨b, off, rfl, hx⟩
end
end Go.Proofs.YtldmglodjafklaaGreat.Rd
/- The walk of aediculelaw06.alive. -/
namespace Go.Proofs.YtldmglodjafklaaGreat
open Go.RowKit Word
set_option linter.unusedSimpArgs false
set_option linter.unusedVariables false
namespace Cp
def code1 : Nat → Ins
  | 0 => ⟨32, 1, 0, 0, 5⟩
  | 1 => ⟨17, 0, 1, 0, 1⟩
  | _ => ⟨50, 0, 0, 0, 9⟩
def code2 : Nat → Ins := fun _ => ⟨41, 15, 0, 0, 1048576⟩
def pgs1 : List Pg := madeA (fun _ => 4) 1 0 (strOfNums (textL code1 3)) 0 ByteArray.empty
def pgs2 : List Pg := madeA (fun _ => 4) 1 0 (strOfNums (textL code2 1)) 0 ByteArray.empty
def regs0 : List Int := regsK (fun _ => 0) (min 0 16)
def told (q : Out × Nat) : Int × Int × Int × Nat × Int × Int × Int × Int := (q.1.kind, q.1.num, q.1.why, q.2, rg q.1.r 1, rg q.1.r 0, rg q.1.r 15, q.1.pc)
theorem run1 : told (run pgs1 regs0 0 9) = (1, 9, 0, 3, 5, 0, 0, 24) := by kernel_rfl
theorem run2 : told (run pgs2 regs0 0 9) = (2, 0, 50, 1, 0, 0, 8, 1048576) := by kernel_rfl
theorem reg_bad (cb : Nat) (n : Int) (hn : n < 0 ∨ 16 ≤ n) (w : World) : Calls Tryz.prog 36 #[.pointer (some ⟨cb, 0, none⟩), .int .i64 n] w fun e w' => e = .returned (.tuple #[.int .u32 0, .int .i64 2]) ∧ w = w' := by
  cases g0 : decide (n < 0) with
  | true =>
    go_enter Tryz.func36, Tryz.ntmps36
    go_wp2
    go_ret2
    exact ⟨rfl, rfl⟩
  | false =>
    have g1 : decide (16 ≤ n) = true := decide_eq_true (by have := of_decide_eq_false g0; omega)
    go_enter Tryz.func36, Tryz.ntmps36
    go_wp2
    go_ret2
    exact ⟨rfl, rfl⟩
def st1 (B1 B2 : Nat) : St := ⟨none, 0, 0, fun _ => 0, 0, some ⟨B1, 0, none⟩, 1, 1, fun _ => 4, 0, some ⟨B2, 0, none⟩, 3, 3, code1, 0, ByteArray.empty⟩
def st2 (B1 B2 : Nat) : St := ⟨none, 0, 0, fun _ => 0, 0, some ⟨B1, 0, none⟩, 1, 1, fun _ => 4, 0, some ⟨B2, 0, none⟩, 1, 1, code2, 0, ByteArray.empty⟩
theorem made1 (W : World) (B1 B2 : Nat) (h1 : W.heap[B1]? = some (.cells #[.int .u8 4] 5 (0, 0))) (h2 : W.heap[B2]? = some (.cells #[.int .u8 32, .int .u8 1, .int .u8 0, .int .u8 0, .int .u32 5, .int .u8 17, .int .u8 0, .int .u8 1, .int .u8 0, .int .u32 1, .int .u8 50, .int .u8 0, .int .u8 0, .int .u8 0, .int .u32 9] 91 (0, 0))) :
    Calls Tryz.prog 27 #[.agg (st1 B1 B2).cells] W (MadePost W (st1 B1 B2)) := by
  refine made W (st1 B1 B2) ⟨fun h => absurd h (by simp [st1]), fun i hi => absurd hi (by simp [st1]), by simp [st1], by simp [st1], by simp [st1], fun _ => ⟨B1, 0, rfl, lt_of_block h1, fun i hi => ?_⟩, fun i hi => ?_, by simp [st1], by simp [st1], by simp [st1], fun _ => ⟨B2, 0, rfl, fun i hi => ?_⟩, fun i hi => ?_, by simp [st1], by simp [st1], by simp [st1], by simp [st1]⟩
  · have : i = 0 := by simp [st1] at hi; exact hi
    subst this
    unfold World.cell?
    rw [h1]
    rfl
  · exact ⟨by simp [st1], by simp [st1]⟩
  · have : i = 0 ∨ i = 1 ∨ i = 2 := by simp only [st1] at hi; omega
    rcases this with rfl | rfl | rfl
    all_goals
      constructor <;> unfold World.cell? <;> rw [h2] <;> rfl
  · have : i = 0 ∨ i = 1 ∨ i = 2 := by simp only [st1] at hi; omega
    rcases this with rfl | rfl | rfl
    all_goals
      constructor <;> simp [st1, code1]
theorem made2 (W : World) (B1 B2 : Nat) (h1 : W.heap[B1]? = some (.cells #[.int .u8 4] 5 (0, 0))) (h2 : W.heap[B2]? = some (.cells #[.int .u8 41, .int .u8 15, .int .u8 0, .int .u8 0, .int .u32 1048576] 91 (0, 0))) :
    Calls Tryz.prog 27 #[.agg (st2 B1 B2).cells] W (MadePost W (st2 B1 B2)) := by
  refine made W (st2 B1 B2) ⟨fun h => absurd h (by simp [st2]), fun i hi => absurd hi (by simp [st2]), by simp [st2], by simp [st2], by simp [st2], fun _ => ⟨B1, 0, rfl, lt_of_block h1, fun i hi => ?_⟩, fun i hi => ?_, by simp [st2], by simp [st2], by simp [st2], fun _ => ⟨B2, 0, rfl, fun i hi => ?_⟩, fun i hi => ?_, by simp [st2], by simp [st2], by simp [st2], by simp [st2]⟩
  · have : i = 0 := by simp [st2] at hi; exact hi
    subst this
    unfold World.cell?
    rw [h1]
    rfl
  · exact ⟨by simp [st2], by simp [st2]⟩
  · have : i = 0 := by simp only [st2] at hi; omega
    subst this
    constructor <;> unfold World.cell? <;> rw [h2] <;> rfl
  · constructor <;> simp [st2, code2]
theorem told_like {A B : List Pg} (h : cores A = cores B) (r : List Int) (pc : Int) (n : Nat) : told (run A r pc n) = told (run B r pc n) := by
  obtain ⟨h1, h2⟩ := like_run n h r pc
  unfold told
  rw [h1.kind, h1.num, h1.why, h1.r, h1.pc, h2]
/-- What a Run of one of the examples leaves. -/
structure Ran (w : World) (cb sb mb : Nat) (A : List Pg) (q : Int × Int × Int × Nat × Int × Int × Int × Int) (e : Ending) (w' : World) : Prop where
  e : e = .returned (.tuple #[stopV q.1 q.2.1 q.2.2.1, .int .i64 q.2.2.2.1])
  cpu : ∃ r, Cpu 116 w' cb r q.2.2.2.2.2.2.2 ∧ rg r 1 = q.2.2.2.2.1 ∧ rg r 0 = q.2.2.2.2.2.1 ∧ rg r 15 = q.2.2.2.2.2.2.1
  mod : Mod (fun k => k = cb ∨ Sp.pgBlk A k) w w'
theorem ran {w : World} {cb sb mb : Nat} {A B : List Pg} {r : List Int} {pc : Int} (hc : Cpu 116 w cb r pc) (hs : Spc w sb mb A) (hn : ¬ Spc.foot sb mb A cb) (h : cores A = cores B) :
    Calls Tryz.prog 34 #[.pointer (some ⟨cb, 0, none⟩), .pointer (some ⟨sb, 0, none⟩), .int .i64 9] w (Ran w cb sb mb A (told (run B r pc 9))) := by
  refine (run_any hc hs hn 9 (by omega)).mono fun e w' ⟨g1, g2, g3, g4⟩ => ?_
  have ht := told_like h r pc 9
  rw [← ht]
  exact ⟨g1, ⟨_, g2, rfl, rfl, rfl⟩, g4⟩
set_option maxRecDepth 100000 in
set_option maxHeartbeats 2000000 in
theorem alive06 (w : World) : Calls Tryz.prog 26 #[] w fun e w' => e = .returned (.bool true) ∧ Below w.heap.size w w' := by
  have heq1 : ∀ w : World, (binOp .eql 29 (.agg #[.int .u8 1, .int .u32 9, .int .i64 0]) (.agg #[.int .u8 1, .int .u32 9, .int .i64 0])).run Tryz.prog w = .ok (.bool true) w := fun w => by kernel_rfl
  have heq2 : ∀ w : World, (binOp .eql 29 (.agg #[.int .u8 2, .int .u32 0, .int .i64 50]) (.agg #[.int .u8 2, .int .u32 0, .int .i64 50])).run Tryz.prog w = .ok (.bool true) w := fun w => by kernel_rfl
  go_enter Tryz.func26, Tryz.ntmps26
  go_wp2_with fail
  generalize hW : (w.alloc (.cells #[.int .u8 4] 5)).alloc (.cells #[.int .u8 32, .int .u8 1, .int .u8 0, .int .u8 0, .int .u32 5, .int .u8 17, .int .u8 0, .int .u8 1, .int .u8 0, .int .u32 1, .int .u8 50, .int .u8 0, .int .u8 0, .int .u8 0, .int .u32 9] 91) = W at *
  have hb : Below w.heap.size w W := by rw [← hW]; exact ((Below.refl _ _).alloc (Nat.le_refl _) _).alloc (by simp) _
  have k1 : W.heap[w.heap.size]? = some (.cells #[.int .u8 4] 5 (0, 0)) := by rw [← hW, Below.heap_alloc _ _ _ (by simp)]; exact heap_alloc_new w _
  have k2 : W.heap[w.heap.size + 1]? = some (.cells #[.int .u8 32, .int .u8 1, .int .u8 0, .int .u8 0, .int .u32 5, .int .u8 17, .int .u8 0, .int .u8 1, .int .u8 0, .int .u32 1, .int .u8 50, .int .u8 0, .int .u8 0, .int .u8 0, .int .u32 9] 91 (0, 0)) := by
    rw [← hW]
    have h := heap_alloc_new (w.alloc (.cells #[.int .u8 4] 5)) (.cells #[.int .u8 32, .int .u8 1, .int .u8 0, .int .u8 0, .int .u32 5, .int .u8 17, .int .u8 0, .int .u8 1, .int .u8 0, .int .u32 1, .int .u8 50, .int .u8 0, .int .u8 0, .int .u8 0, .int .u32 9] 91)
    rwa [show (w.alloc (.cells #[.int .u8 4] 5)).heap.size = w.heap.size + 1 by simp] at h
  refine (made1 W _ _ k1 k2).mono ?_
  rintro e w1 ⟨cb, sb, mb, A, db, rb, lv, R, rfl, hd, _, hk⟩
  have HB1 := Lib.hid (hb.trans (hd.bel.mono hb.size))
  have HC1 := Lib.hid hd.cp
  have HS1 := Lib.hid hd.pair.sp
  have HN1 := Lib.hid hd.ca
  have HF1 : Hid (w.heap.size ≤ cb ∧ ∀ k, Sp.pgBlk A k → w.heap.size ≤ k) := Lib.hid ⟨Nat.le_trans hb.size hd.c0, fun k hk => Nat.le_trans hb.size (hd.a0 k (.inr (.inr hk)))⟩
  have HK1 := Lib.hid hk
  clear hd hk k1 k2 hb hW
  go_wp2_with fail
  generalize hW2 : (w1.alloc (.cells #[.int .u8 4] 5)).alloc (.cells #[.int .u8 41, .int .u8 15, .int .u8 0, .int .u8 0, .int .u32 1048576] 91) = W2 at *
  have hb2 : Below w1.heap.size w1 W2 := by rw [← hW2]; exact ((Below.refl _ _).alloc (Nat.le_refl _) _).alloc (by simp) _
  have k1 : W2.heap[w1.heap.size]? = some (.cells #[.int .u8 4] 5 (0, 0)) := by rw [← hW2, Below.heap_alloc _ _ _ (by simp)]; exact heap_alloc_new w1 _
  have k2 : W2.heap[w1.heap.size + 1]? = some (.cells #[.int .u8 41, .int .u8 15, .int .u8 0, .int .u8 0, .int .u32 1048576] 91 (0, 0)) := by
    rw [← hW2]
    have h := heap_alloc_new (w1.alloc (.cells #[.int .u8 4] 5)) (.cells #[.int .u8 41, .int .u8 15, .int .u8 0, .int .u8 0, .int .u32 1048576] 91)
    rwa [show (w1.alloc (.cells #[.int .u8 4] 5)).heap.size = w1.heap.size + 1 by simp] at h
  refine (made2 W2 _ _ k1 k2).mono ?_
  rintro e w2 ⟨cb2, sb2, mb2, A2, db2, rb2, lv2, R2, rfl, hd2, _, hk2⟩
  have hb12 : Below w1.heap.size w1 w2 := hb2.trans (hd2.bel.mono hb2.size)
  have HB2 := Lib.hid (HB1.out.trans (hb12.mono HB1.out.size))
  have HC := Lib.hid (HC1.out.below hb12)
  have HS := Lib.hid (HS1.out.below hb12 fun _ hk => HS1.out.lt hk)
  have HC2 := Lib.hid hd2.cp
  have HS2 := Lib.hid hd2.pair.sp
  have HN2 := Lib.hid hd2.ca
  have HK2 := Lib.hid hk2
  have HLt : Hid (cb < w1.heap.size ∧ (∀ k, Sp.pgBlk A k → k < w1.heap.size) ∧ w1.heap.size ≤ cb2 ∧ ∀ k, Spc.foot sb2 mb2 A2 k → w1.heap.size ≤ k) := Lib.hid ⟨HC1.out.lt, fun k hk => HS1.out.lt (.inr (.inr hk)), Nat.le_trans hb2.size hd2.c0, fun k hk => Nat.le_trans hb2.size (hd2.a0 k hk)⟩
  have HF : Hid (w.heap.size ≤ w1.heap.size) := Lib.hid HB1.out.size
  clear hd2 hk2 k1 k2 hb2 hW2 hb12 HC1 HS1 HB1
  have hr1 : Calls Tryz.prog 34 #[.pointer (some ⟨cb, 0, none⟩), .pointer (some ⟨sb, 0, none⟩), .int .i64 9] w2 (Ran w2 cb sb mb A (1, 9, 0, 3, 5, 0, 0, 24)) := by
    have h := ran (B := pgs1) HC.out HS.out HN1.out HK1.out
    have e : told (run pgs1 (st1 w.heap.size (w.heap.size + 1)).regs (st1 w.heap.size (w.heap.size + 1)).pc 9) = (1, 9, 0, 3, 5, 0, 0, 24) := run1
    rw [e] at h
    exact h
  have HR1 := Lib.hid hr1
  clear hr1
  go_wp2_with fail
  refine HR1.out.mono ?_
  rintro e w3 ⟨rfl, ⟨r3, hc3, r31, r30, _⟩, hm3⟩
  simp only at hc3 r31 r30
  have hmb : Below w.heap.size w w3 := hm3.below HB2.out HB2.out.size (by rintro i _ (g | g); exact g ▸ HF1.out.1; exact HF1.out.2 i g)
  have hz3 := hm3.size
  have hz2 := HC2.out.lt
  have HB3 := Lib.hid hmb
  have HC3 := Lib.hid hc3
  have HC23 := Lib.hid (HC2.out.keep hm3 (by rintro (g | g); have := HLt.out.1; have := HLt.out.2.2.1; omega; have := HLt.out.2.1 _ g; have := HLt.out.2.2.1; omega))
  have HS23 := Lib.hid (HS2.out.keep hm3 (fun k hk => by have h1 := HLt.out.2.2.2 k hk; rintro (g | g); have := HLt.out.1; omega; have := HLt.out.2.1 _ g; omega))
  have HP2 : Hid (∀ k, Sp.pgBlk A2 k → k < w3.heap.size) := Lib.hid fun k hk => Nat.lt_of_lt_of_le (HS2.out.lt (.inr (.inr hk))) hz3
  have HBx : Hid ((w3.alloc (.cells #[.int .u8 1, .int .u32 9, .int .i64 0] 29)).heap[w3.heap.size]? = some (.cells #[.int .u8 1, .int .u32 9, .int .i64 0] 29 (0, 0))) := Lib.hid (heap_alloc_new w3 _)
  clear hc3 hm3 hmb HR1 HC2 HS2 HC HS HK1 HB2
  unfold stopV
  have g1 : Calls Tryz.prog 36 #[.pointer (some ⟨cb, 0, none⟩), .int .i64 1] (w3.alloc (.cells #[.int .u8 1, .int .u32 9, .int .i64 0] 29)) fun e w' => e = .returned (.tuple #[.int .u32 5, .int .i64 0]) ∧ (w3.alloc (.cells #[.int .u8 1, .int .u32 9, .int .i64 0] 29)) = w' := by
    have h := reg_ok (HC3.out.below ((Below.refl _ _).alloc (Nat.le_refl _) (.cells #[.int .u8 1, .int .u32 9, .int .i64 0] 29))) 1 (by omega)
    rw [show rg r3 ((1 : Nat) : Int) = 5 from r31] at h
    exact h
  have g0 : Calls Tryz.prog 36 #[.pointer (some ⟨cb, 0, none⟩), .int .i64 0] (w3.alloc (.cells #[.int .u8 1, .int .u32 9, .int .i64 0] 29)) fun e w' => e = .returned (.tuple #[.int .u32 0, .int .i64 0]) ∧ (w3.alloc (.cells #[.int .u8 1, .int .u32 9, .int .i64 0] 29)) = w' := by
    have h := reg_ok (HC3.out.below ((Below.refl _ _).alloc (Nat.le_refl _) (.cells #[.int .u8 1, .int .u32 9, .int .i64 0] 29))) 0 (by omega)
    rw [show rg r3 ((0 : Nat) : Int) = 0 from r30] at h
    exact h
  have hr2 : Calls Tryz.prog 34 #[.pointer (some ⟨cb2, 0, none⟩), .pointer (some ⟨sb2, 0, none⟩), .int .i64 9] (w3.alloc (.cells #[.int .u8 1, .int .u32 9, .int .i64 0] 29)) (Ran (w3.alloc (.cells #[.int .u8 1, .int .u32 9, .int .i64 0] 29)) cb2 sb2 mb2 A2 (2, 0, 50, 1, 0, 0, 8, 1048576)) := by
    have h := ran (B := pgs2) (HC23.out.below ((Below.refl _ _).alloc (Nat.le_refl _) (.cells #[.int .u8 1, .int .u32 9, .int .i64 0] 29))) (HS23.out.below ((Below.refl _ _).alloc (Nat.le_refl _) (.cells #[.int .u8 1, .int .u32 9, .int .i64 0] 29)) fun _ hk => HS23.out.lt hk) HN2.out HK2.out
    have e : told (run pgs2 (st2 w1.heap.size (w1.heap.size + 1)).regs (st2 w1.heap.size (w1.heap.size + 1)).pc 9) = (2, 0, 50, 1, 0, 0, 8, 1048576) := run2
    rw [e] at h
    exact h
  have HR2 := Lib.hid hr2
  have HG1 := Lib.hid g1
  have HG0 := Lib.hid g0
  clear hr2 g1 g0
  go_wp2_with (go_at_call 36; first | ((with_reducible refine HG1.out.mono ?_); rintro e w4 ⟨rfl, rfl⟩) | ((with_reducible refine HG0.out.mono ?_); rintro e w4 ⟨rfl, rfl⟩))
  refine HR2.out.mono ?_
  rintro e w4 ⟨rfl, ⟨r4, hc4, _, _, r415⟩, hm4⟩
  simp only at hc4 r415
  have hz4 := hm4.size
  have hz5 : w3.heap.size < w4.heap.size := by simp at hz4; omega
  have hb4 : Below w.heap.size w w4 := hm4.below (HB3.out.alloc HB3.out.size _) (Nat.le_trans HB3.out.size (by simp)) (by have h1 := HLt.out.2.2.1; have h2 := HF.out; rintro i _ (g | g); omega; have := HLt.out.2.2.2 i (.inr (.inr g)); omega)
  have hc14 : Cpu 116 w4 cb r3 24 := (HC3.out.below ((Below.refl _ _).alloc (Nat.le_refl _) (.cells #[.int .u8 1, .int .u32 9, .int .i64 0] 29))).keep hm4 (by have h1 := HLt.out.1; have h2 := HLt.out.2.2.1; rintro (g | g); omega; have := HLt.out.2.2.2 cb (.inr (.inr g)); omega)
  have hbx : w4.heap[w3.heap.size]? = some (.cells #[.int .u8 1, .int .u32 9, .int .i64 0] 29 (0, 0)) := (hm4.block _ (by simp) (by rintro (g | g); have := HC23.out.lt; omega; have := HP2.out _ g; omega)).trans HBx.out
  have hb5 : Below w4.heap.size w4 (w4.alloc (.cells #[.int .u8 2, .int .u32 0, .int .i64 50] 29)) := (Below.refl _ _).alloc (Nat.le_refl _) _
  have HB5 := Lib.hid (hb4.trans (hb5.mono hb4.size))
  have g15 : Calls Tryz.prog 36 #[.pointer (some ⟨cb2, 0, none⟩), .int .i64 15] (w4.alloc (.cells #[.int .u8 2, .int .u32 0, .int .i64 50] 29)) fun e w' => e = .returned (.tuple #[.int .u32 8, .int .i64 0]) ∧ (w4.alloc (.cells #[.int .u8 2, .int .u32 0, .int .i64 50] 29)) = w' := by
    have h := reg_ok (hc4.below hb5) 15 (by omega)
    rw [show rg r4 ((15 : Nat) : Int) = 8 from r415] at h
    exact h
  have HG15 := Lib.hid g15
  have HP1 := Lib.hid (pc_ok (hc14.below hb5))
  have HP24 := Lib.hid (pc_ok (hc4.below hb5))
  obtain ⟨v0, v1, v2⟩ := cells3 ((hb5.block _ hz5).trans hbx)
  clear g15 hc4 hc14 hbx hb4 hm4 hb5 HR2 HG1 HG0 HC3 HC23 HS23 HB3 HBx
  unfold stopV
  go_wp2_with (first | (go_at_call 36; first | ((with_reducible refine HG15.out.mono ?_); rintro e w6 ⟨rfl, rfl⟩) | ((with_reducible refine (reg_bad cb2 16 (by omega) _).mono ?_); rintro e w6 ⟨rfl, rfl⟩)) | (go_at_call 41; first | ((with_reducible refine HP1.out.mono ?_); rintro e w6 ⟨rfl, rfl⟩) | ((with_reducible refine HP24.out.mono ?_); rintro e w6 ⟨rfl, rfl⟩)))
  go_ret
  exact ⟨rfl, HB5.out⟩
end Cp
end Go.Proofs.YtldmglodjafklaaGreat
/- The walks of aediculelaw06: Heavy, Same, CpuRuns. -/
namespace Go.Proofs.YtldmglodjafklaaGreat
open Go.RowKit Word
set_option linter.unusedVariables false
set_option linter.unusedSimpArgs false
namespace Cp
def heavyV (x : St) : Bool := decide ((40 : Int) < x.rn) || decide ((16 : Int) < x.pn) || decide ((200 : Int) < x.cn) || decide ((2048 : Int) < x.text.size)
set_option maxRecDepth 100000 in
theorem heavy06 (w : World) (x : St) : Calls Tryz.prog 25 #[.agg x.cells] w fun e w' => e = .returned (.bool (heavyV x)) ∧ Below w.heap.size w w' := by
  have hb : Below w.heap.size w (w.alloc (.cells x.cells 55)) := (Below.refl _ _).alloc (Nat.le_refl _) _
  obtain ⟨b0, b1, b2, b3, b4, b5, b6⟩ := (⟨heap_alloc_new w _⟩ : StBox (w.alloc (.cells x.cells 55)) w.heap.size x).cells
  have HB := Lib.hid hb
  have HE : Hid (heavyV x = (decide ((40 : Int) < x.rn) || decide ((16 : Int) < x.pn) || decide ((200 : Int) < x.cn) || decide ((2048 : Int) < x.text.size))) := Lib.hid rfl
  generalize heavyV x = E at *
  unfold St.cells at *
  cases h1 : decide ((40 : Int) < x.rn) <;> cases h2 : decide ((16 : Int) < x.pn) <;> cases h3 : decide ((200 : Int) < x.cn) <;> cases h4 : decide ((2048 : Int) < x.text.size)
  all_goals
    go_enter Tryz.func25, Tryz.ntmps25
    go_wp2
    go_ret
    exact ⟨by rw [HE.out, h1, h2, h3, h4]; rfl, HB.out⟩
def smRel (w : World) (vi : Value) (wr : World) : Prop := ∃ i : Nat, i ≤ 16 ∧ vi = .int .i64 i ∧ wr = w
set_option maxRecDepth 100000 in
theorem same06 {w : World} {cb db : Nat} {r : List Int} {pc : Int} (hc : Cpu 116 w cb r pc) (hd : Cpu 107 w db r pc) :
    Calls Tryz.prog 30 #[.pointer (some ⟨cb, 0, none⟩), .pointer (some ⟨db, 0, none⟩)] w fun e w' => e = .returned (.bool true) ∧ Below w.heap.size w w' := by
  have HC := Lib.hid hc
  have HD := Lib.hid hd
  clear hc hd
  go_enter Tryz.func30, Tryz.ntmps30
  go_wp2
  go_loopw [5] (fun vi wr => smRel w vi wr) (fun vi _ => 16 - (intOf vi).toNat)
  case atStart => exact ⟨0, by omega, by go_num, rfl⟩
  case round =>
    obtain ⟨i, hi, rfl, rfl⟩ := hrel
    by_cases hi2 : i < 16
    · have hi3 : (i : Int) < 16 := by omega
      have hr := reg_ok HC.out i hi2
      have hdc := HD.out.cellReg i hi2
      have HR := Lib.hid hr
      clear hr
      generalize rg r (i : Int) = v at *
      go_wp2_with (go_at_call 36; (with_reducible refine HR.out.mono ?_); rintro e w2 ⟨rfl, rfl⟩)
      exact ⟨⟨i + 1, by omega, by go_num, rfl⟩, by simp [intOf]; omega⟩
    · obtain rfl : i = 16 := by omega
      have hp := HD.out.cellPc
      have HPn : Hid (∀ n, Calls Tryz.prog 41 #[.pointer (some ⟨cb, 0, none⟩)] (wr.drewN n) fun e w' => e = .returned (.int .u32 pc) ∧ w' = wr.drewN n) := Lib.hid fun n => (pc_ok (HC.out.frame (w' := wr.drewN n) rfl)).mono fun e w' ⟨g1, g2⟩ => ⟨g1, g2.symm⟩
      go_wp2_with fail
      go_quiet ((go_at_call 41; exact Calls.quiet_of_same (HPn.out _)))
      go_wp2
      go_ret
      exact ⟨rfl, by first | exact below_drewN (Below.refl _ _) _ | exact (Below.refl _ _).drew | exact (below_drewN (Below.refl _ _) _).drew⟩
end Cp
end Go.Proofs.YtldmglodjafklaaGreat
/- The walk of aediculelaw06.CpuRuns. -/
namespace Go.Proofs.YtldmglodjafklaaGreat
open Go.RowKit Word
set_option linter.unusedVariables false
set_option linter.unusedSimpArgs false
namespace Cp
/-- A state as it comes in: of whatever lengths. -/
structure St.pre (w : World) (x : St) : Prop where
  rrow : RowN .u32 w x.ra x.rn x.rf
  rbd : ∀ i, i < x.rn → 0 ≤ x.rf i ∧ x.rf i ≤ 4294967295
  rlen : x.rn ≤ 9223372036854775807
  p0 : 0 ≤ x.pc
  p1 : x.pc ≤ 4294967295
  prow : RowN .u8 w x.pa x.pn x.pf
  pbd : ∀ i, i < x.pn → 0 ≤ x.pf i ∧ x.pf i ≤ 255
  a0 : 0 ≤ x.at'
  a1 : x.at' ≤ 65535
  crow : Code w x.ca x.cn x.cf
  cbd : ∀ i, i < x.cn → (x.cf i).ok
  w0 : 0 ≤ x.wh
  w1 : x.wh ≤ 65535
theorem RowN.below {k : IntKind} {w w' : World} {a : Option Addr} {n : Nat} {f : Nat → Int} (h : RowN k w a n f) (hb : Below w.heap.size w w') : RowN k w' a n f := fun hn => by
  obtain ⟨b, off, e, hl, hc⟩ := h hn
  exact ⟨b, off, e, Nat.lt_of_lt_of_le hl hb.size, fun i hi => (World.cell?_of_block (w := w) (hb.block b hl)).trans (hc i hi)⟩
theorem St.pre.toOk {w w' : World} {x : St} (h : x.pre w) (hb : Below w.heap.size w w') (hh : heavyV x = false) : x.ok w' := by
  unfold heavyV at hh
  simp only [Bool.or_eq_false_iff, decide_eq_false_iff_not] at hh
  exact ⟨h.rrow.below hb, h.rbd, h.rlen, h.p0, h.p1, h.prow.below hb, h.pbd, by omega, h.a0, h.a1, h.crow.below hb, h.cbd, by omega, h.w0, h.w1, by omega⟩
theorem neStop (k n y : Int) (w : World) : (binOp .neq 29 (.agg #[.int .u8 k, .int .u32 n, .int .i64 y]) (.agg #[.int .u8 k, .int .u32 n, .int .i64 y])).run Tryz.prog w = .ok (.bool false) w := by
  simp [go_sem, Tryz.underlying29]
def crRel (w0 : World) (cb sb mb db rb : Nat) (n : Nat) (vi : Value) (wr : World) : Prop :=
  ∃ (i : Nat) (A : List Pg) (lv : Value) (R : List Rp) (r : List Int) (pc : Int), i ≤ n ∧ vi = .int .i64 i ∧ Duo w0 wr cb sb mb A r pc db rb lv R r pc ∧ cores A = cores (rpgs R)
set_option maxRecDepth 100000 in
set_option maxHeartbeats 4000000 in
theorem cpuRuns (w : World) (x : St) (hp : x.pre w) (n : Int) (n0 : 0 ≤ n) (n1 : n ≤ 255) :
    Calls Tryz.prog 4 #[.agg x.cells, .int .u8 n] w fun e w' => e = .returned (.bool true) ∧ Below w.heap.size w w' := by
  have hb : Below w.heap.size w (w.alloc (.cells x.cells 55)) := (Below.refl _ _).alloc (Nat.le_refl _) _
  have hbx : StBox (w.alloc (.cells x.cells 55)) w.heap.size x := ⟨heap_alloc_new w _⟩
  have HHv := Lib.hid (heavy06 (w.alloc (.cells x.cells 55)) x)
  have hmade : heavyV x = false → ∀ w1, Below (w.alloc (.cells x.cells 55)).heap.size (w.alloc (.cells x.cells 55)) w1 → Calls Tryz.prog 27 #[.agg x.cells] w1 (MadePost w1 x) := fun hh w1 hb1 => made w1 x (hp.toOk (below_th hb hb1) hh)
  have HMd := Lib.hid hmade
  have HB := Lib.hid hb
  have HBx := Lib.hid hbx
  obtain ⟨b0, b1, b2, b3, b4, b5, b6⟩ := hbx.cells
  clear hmade hb hbx hp
  unfold St.cells at *
  obtain ⟨m, rfl⟩ := Int.eq_ofNat_of_zero_le n0
  obtain ⟨q, hq⟩ : ∃ q : Nat, m % 60 = q := ⟨_, rfl⟩
  have hq60 : q < 60 := by omega
  have hqt : (m : Int).tmod 60 = q := by rw [Int.tmod_eq_emod_of_nonneg (by omega)]; omega
  have hqe : (m : Int) % 60 = q := by omega
  cases hh : heavyV x with
  | true =>
    have HH := Lib.hid hh
    clear hh
    go_enter Tryz.func4, Tryz.ntmps4
    go_wp2_with fail
    refine HHv.out.mono ?_
    rintro e w1 ⟨rfl, hb1⟩
    rw [HH.out]
    have HB1 := Lib.hid (below_th HB.out hb1)
    clear hb1
    go_wp2_with fail
    refine (alive06 _).mono ?_
    rintro e w2 ⟨rfl, hb2⟩
    have HB2 := Lib.hid (below_th HB1.out hb2)
    clear hb2
    go_wp2
    go_ret
    exact ⟨rfl, HB2.out⟩
  | false =>
    have HH := Lib.hid hh
    clear hh
    go_enter Tryz.func4, Tryz.ntmps4
    go_wp2_with fail
    refine HHv.out.mono ?_
    rintro e w1 ⟨rfl, hb1⟩
    rw [HH.out]
    have hbx1 := HBx.out.below hb1 (by simp)
    obtain ⟨b0, b1, b2, b3, b4, b5, b6⟩ := hbx1.cells
    have HM1 := Lib.hid (HMd.out HH.out w1 hb1)
    have HB1 := Lib.hid (below_th HB.out hb1)
    clear hb1 hbx1 HBx
    go_wp2_with fail
    refine HM1.out.mono ?_
    rintro e w2 ⟨cb, sb, mb, A, db, rb, lv, R, rfl, hd, he, _⟩
    have HD := Lib.hid (hd.weaken HB1.out)
    have HE := Lib.hid he
    clear hd he b0 b1 b2 b3 b4 b5 b6
    go_wp2
    go_loopw [10] (fun vi wr => crRel w cb sb mb db rb q vi wr) (fun vi _ => q - (intOf vi).toNat)
    case atStart => exact ⟨0, A, lv, R, _, _, Nat.zero_le _, by go_num, HD.out, HE.out⟩
    case round =>
      clear HD HE HM1 HMd HHv
      obtain ⟨i, A2, lv2, R2, r, pc, hi, rfl, hd, he⟩ := hrel
      have HD := Lib.hid hd
      have HE := Lib.hid he
      clear hd he
      by_cases hi2 : i < q
      · have hlk := like_stp HE.out r pc
        have hst := step HD.out.cp HD.out.pair.sp HD.out.ca
        have hbk := blks_stp A2 r pc
        have hkd := stp_kind A2 r pc
        have HF : Hid (∀ w4, Cpu 107 w4 db r pc → Rsp w4 rb lv2 R2 → Calls Tryz.prog 29 #[.pointer (some ⟨db, 0, none⟩), .pointer (some ⟨rb, 0, none⟩)] w4 (SdStPost w4 db rb lv2 R2 (stp (rpgs R2) r pc))) := Lib.hid fun w4 g1 g2 => stepD g1 g2 HD.out.dr
        have hsv : (stp (rpgs R2) r pc).stop = .agg #[.int .u8 (stp A2 r pc).kind, .int .u32 (stp A2 r pc).num, .int .i64 (stp A2 r pc).why] := hlk.stop.symm
        generalize stp A2 r pc = o at *
        generalize stp (rpgs R2) r pc = o2 at *
        have HL := Lib.hid hlk
        have HSt := Lib.hid hst
        have HBk := Lib.hid hbk
        have HSv := Lib.hid hsv
        clear hlk hst hbk hsv
        go_wp2_with fail
        refine HSt.out.mono ?_
        rintro e w4 ⟨rfl, hc4, hs4, hm4⟩
        have hd4 := HD.out.stepC hc4 hs4 HBk.out hm4
        have HD4 := Lib.hid hd4
        clear hc4 hs4 hm4 hd4
        go_wp2_with fail
        refine (HF.out w4 HD4.out.dp HD4.out.pair.rp).mono ?_
        rintro e w5 ⟨R5, rfl, hc5, hR5, hr5, hm5, hf5⟩
        rw [← HL.out.r, ← HL.out.pc] at hc5
        have hd5 := HD4.out.stepD hc5 hr5 hm5 hf5
        have HD5 := Lib.hid hd5
        have HE5 : Hid (cores o.A = cores (rpgs R5)) := Lib.hid (by rw [hR5]; exact HL.out.cores)
        clear hc5 hr5 hm5 hf5 hR5 hd5
        rw [HSv.out]
        obtain ⟨kind, num, why, r6, pc6, A6⟩ := o
        unfold Out.stop
        simp only at HD5 HE5 hkd ⊢
        clear HD4 HF HSt HL HBk HSv
        have hd7 : Hid (Below w5.heap.size w5 ((w5.alloc (.cells #[.int .u8 kind, .int .u32 num, .int .i64 why] 29)).alloc (.cells #[.int .u8 kind, .int .u32 num, .int .i64 why] 29))) := Lib.hid (((Below.refl _ _).alloc (Nat.le_refl _) _).alloc (by simp) _)
        have HSm := Lib.hid (same06 (HD5.out.below hd7.out).cp (HD5.out.below hd7.out).dp)
        have hx7 : ((w5.alloc (.cells #[.int .u8 kind, .int .u32 num, .int .i64 why] 29)).alloc (.cells #[.int .u8 kind, .int .u32 num, .int .i64 why] 29)).heap[w5.heap.size]? = some (.cells #[.int .u8 kind, .int .u32 num, .int .i64 why] 29 (0, 0)) := (Below.heap_alloc _ _ _ (by simp)).trans (heap_alloc_new w5 _)
        have HX7 := Lib.hid hx7
        clear hx7
        go_wp2_with fail
        refine HSm.out.mono ?_
        rintro e w8 ⟨rfl, hb8⟩
        obtain ⟨v0, _, _⟩ := cells3 ((hb8.block _ (lt_of_block HX7.out)).trans HX7.out)
        have HD8 := Lib.hid ((HD5.out.below hd7.out).below hb8)
        clear hb8 HSm HX7 HD5 hd7 HD
        rcases hkd with rfl | rfl | rfl
        · go_wp2
          exact ⟨⟨i + 1, A6, lv2, R5, r6, pc6, by omega, by go_num, HD8.out, HE5.out⟩, by simp [intOf]; omega⟩
        · go_wp2
          exact ⟨⟨i + 1, A6, lv2, R5, r6, pc6, by omega, by go_num, HD8.out, HE5.out⟩, by simp [intOf]; omega⟩
        · go_wp2_with (first | (go_at_call 31; (with_reducible refine (Sp.same HD8.out.pair HE5.out).mono ?_); rintro e w9 ⟨rfl, hb9⟩) | (go_at_call 26; (with_reducible refine (alive06 _).mono ?_); rintro e w10 ⟨rfl, hb10⟩))
          go_ret
          exact ⟨rfl, HD8.out.bel.trans ((below_th hb9 hb10).mono HD8.out.bel.size)⟩
      · obtain rfl : i = q := by omega
        go_wp2_with (first | (go_at_call 31; (with_reducible refine (Sp.same HD.out.pair HE.out).mono ?_); rintro e w9 ⟨rfl, hb9⟩) | (go_at_call 26; (with_reducible refine (alive06 _).mono ?_); rintro e w10 ⟨rfl, hb10⟩))
        go_ret
        exact ⟨rfl, HD.out.bel.trans ((below_th hb9 hb10).mono HD.out.bel.size)⟩
end Cp
end Go.Proofs.YtldmglodjafklaaGreat
/- A state of layer 6 as an argument: how it reads. -/
namespace Go.Proofs.YtldmglodjafklaaGreat.Cp
open Go.RowKit
set_option linter.unusedSimpArgs false
set_option linter.unusedVariables false
def insQ (g : Nat → Option Value) (x : Ins) : Prop := (g 0 = some (.int .u8 x.op) ∧ g 1 = some (.int .u8 x.d) ∧ g 2 = some (.int .u8 x.a) ∧ g 3 = some (.int .u8 x.b) ∧ g 4 = some (.int .u32 x.imm)) ∧ x.ok
theorem bounds_u8' {n : Int} (h : (Lit.int .u8 n).wf = true) : 0 ≤ n ∧ n ≤ 255 := by
  simp [Lit.wf, IntKind.min, IntKind.max, IntKind.signed, IntKind.bits] at h
  omega
theorem bounds_u16' {n : Int} (h : (Lit.int .u16 n).wf = true) : 0 ≤ n ∧ n ≤ 65535 := by
  simp [Lit.wf, IntKind.min, IntKind.max, IntKind.signed, IntKind.bits] at h
  omega
theorem ins_read {H : Type} {enc : TypeId × Value → H} {w : World} {base : Nat} {spare : Nat → Bool} {held : Bool} (cs : List Value) (n : Nat) (z : DataW H × List MemPlace) (g : Nat → Option Value)
    (h : DataW.trod enc Tryz.prog w base spare held n 91 cs = some z) (hw : Rd.Wt Tryz.prog 91 z.1) (hl : cs.length = 5) (hg : ∀ j, j < 5 → g j = cs[j]?) : ∃ x : Ins, insQ g x := by
  obtain ⟨_, hs⟩ := Rd.rd_struct Tryz.underlying91 (by kernel_rfl) (by kernel_rfl) h hw
  obtain ⟨v0, z0, n0, e0, t0, q0⟩ := hs 0 _ rfl
  obtain ⟨x0, rfl, w0⟩ := Rd.rd_int Tryz.underlying5 t0
  obtain ⟨v1, z1, n1, e1, t1, q1⟩ := hs 1 _ rfl
  obtain ⟨x1, rfl, w1⟩ := Rd.rd_int Tryz.underlying5 t1
  obtain ⟨v2, z2, n2, e2, t2, q2⟩ := hs 2 _ rfl
  obtain ⟨x2, rfl, w2⟩ := Rd.rd_int Tryz.underlying5 t2
  obtain ⟨v3, z3, n3, e3, t3, q3⟩ := hs 3 _ rfl
  obtain ⟨x3, rfl, w3⟩ := Rd.rd_int Tryz.underlying5 t3
  obtain ⟨v4, z4, n4, e4, t4, q4⟩ := hs 4 _ rfl
  obtain ⟨x4, rfl, w4⟩ := Rd.rd_int Tryz.underlying22 t4
  have b0 := bounds_u8' w0
  have b1 := bounds_u8' w1
  have b2 := bounds_u8' w2
  have b3 := bounds_u8' w3
  have b4 := bounds_u32 w4
  exact ⟨⟨x0, x1, x2, x3, x4⟩, ⟨(hg 0 (by omega)).trans e0, (hg 1 (by omega)).trans e1, (hg 2 (by omega)).trans e2, (hg 3 (by omega)).trans e3, (hg 4 (by omega)).trans e4⟩, ⟨b0.1, b0.2, b1.1, b1.2, b2.1, b2.2, b3.1, b3.2, b4.1, b4.2⟩⟩
def numQ (k : IntKind) (g : Nat → Option Value) (x : Int) : Prop := g 0 = some (.int k x) ∧ (Lit.int k x).wf = true
theorem num_read {H : Type} {enc : TypeId × Value → H} {w : World} {base : Nat} {spare : Nat → Bool} {held : Bool} {k : IntKind} {t : TypeId} (ht : Tryz.prog.underlying t = some (.int k)) (cs : List Value) (n : Nat) (z : DataW H × List MemPlace) (g : Nat → Option Value)
    (h : DataW.trod enc Tryz.prog w base spare held n t cs = some z) (hw : Rd.Wt Tryz.prog t z.1) (hl : cs.length = 1) (hg : ∀ j, j < 1 → g j = cs[j]?) : ∃ x : Int, numQ k g x := by
  match cs, hl with
  | [v], _ =>
    obtain ⟨x, rfl, wx⟩ := Rd.rd_int ht h
    exact ⟨x, hg 0 (by omega), wx⟩
theorem sl_num {k : IntKind} {w : World} {a : Option Addr} {cap : Nat} {xs : List Int} (h : Rd.Sl w 1 (numQ k) a cap xs) : RowN k w a xs.length (fun i => xs.getD i 0) ∧ ∀ i, i < xs.length → (Lit.int k (xs.getD i 0)).wf = true := by
  obtain ⟨_, _, h, _⟩ := h
  rcases h with rfl | ⟨b, off, rfl, h⟩
  · exact ⟨fun g => absurd g (by simp), fun i hi => absurd hi (by simp)⟩
  · have hg : ∀ i, i < xs.length → xs[i]? = some (xs.getD i 0) := fun i hi => by rw [List.getD, List.getElem?_eq_getElem hi]; rfl
    have hc : ∀ i, i < xs.length → w.cell? ⟨b, off + i, none⟩ = some (.int k (xs.getD i 0)) := fun i hi => by
      have := (h i _ (hg i hi)).1
      simpa using this
    refine ⟨fun hn => ⟨b, off, rfl, ?_, hc⟩, fun i hi => (h i _ (hg i hi)).2⟩
    have := hc 0 hn
    unfold World.cell? at this
    cases hq : w.heap[b]? with
    | none => rw [hq] at this; cases this
    | some _ => exact lt_of_block hq
theorem sl_ins {w : World} {a : Option Addr} {cap : Nat} {xs : List Ins} (h : Rd.Sl w 5 insQ a cap xs) : Code w a xs.length (fun i => xs.getD i Ins.nix) ∧ ∀ i, i < xs.length → (xs.getD i Ins.nix).ok := by
  obtain ⟨_, _, h, _⟩ := h
  rcases h with rfl | ⟨b, off, rfl, h⟩
  · exact ⟨fun g => absurd g (by simp), fun i hi => absurd hi (by simp)⟩
  · have hg : ∀ i, i < xs.length → xs[i]? = some (xs.getD i Ins.nix) := fun i hi => by rw [List.getD, List.getElem?_eq_getElem hi]; rfl
    refine ⟨fun _ => ⟨b, off, rfl, fun i hi => ?_⟩, fun i hi => (h i _ (hg i hi)).2⟩
    obtain ⟨⟨c0, c1, c2, c3, c4⟩, _⟩ := h i _ (hg i hi)
    exact ⟨c0, c1, c2, c3, c4⟩
theorem state_read {H : Type} {enc : TypeId × Value → H} {w : World} {base : Nat} {spare : Nat → Bool} {held : Bool} (cs : List Value) (n : Nat) (z : DataW H × List MemPlace)
    (h : DataW.trod enc Tryz.prog w base spare held n 55 cs = some z) (hw : Rd.Wt Tryz.prog 55 z.1) (hl : cs.length = 7) : ∃ x : St, cs = x.cells.toList ∧ x.pre w := by
  obtain ⟨_, hs⟩ := Rd.rd_struct Tryz.underlying55 (by kernel_rfl) (by kernel_rfl) h hw
  obtain ⟨v0, z0, n0, e0, t0, q0⟩ := hs 0 _ rfl
  obtain ⟨a0, cap0, x0, rfl, s0, l0⟩ := Rd.rd_slice Tryz.underlying43 1 (by kernel_rfl) (by omega) (numQ .u32) (fun cs n z g => num_read Tryz.underlying22 cs n z g) t0 q0
  obtain ⟨v1, z1, n1, e1, t1, q1⟩ := hs 1 _ rfl
  obtain ⟨x1, rfl, w1⟩ := Rd.rd_int Tryz.underlying22 t1
  obtain ⟨v2, z2, n2, e2, t2, q2⟩ := hs 2 _ rfl
  obtain ⟨a2, cap2, x2, rfl, s2, l2⟩ := Rd.rd_slice Tryz.underlying51 1 (by kernel_rfl) (by omega) (numQ .u8) (fun cs n z g => num_read Tryz.underlying5 cs n z g) t2 q2
  obtain ⟨v3, z3, n3, e3, t3, q3⟩ := hs 3 _ rfl
  obtain ⟨x3, rfl, w3⟩ := Rd.rd_int Tryz.underlying52 t3
  obtain ⟨v4, z4, n4, e4, t4, q4⟩ := hs 4 _ rfl
  obtain ⟨a4, cap4, x4, rfl, s4, l4⟩ := Rd.rd_slice Tryz.underlying53 5 (by kernel_rfl) (by omega) insQ (fun cs n z g => ins_read cs n z g) t4 q4
  obtain ⟨v5, z5, n5, e5, t5, q5⟩ := hs 5 _ rfl
  obtain ⟨x5, rfl, w5⟩ := Rd.rd_int Tryz.underlying52 t5
  obtain ⟨v6, z6, n6, e6, t6, q6⟩ := hs 6 _ rfl
  obtain ⟨x6, rfl, w6⟩ := Rd.rd_str Tryz.underlying9 t6 q6
  have r0 := sl_num s0
  have r2 := sl_num s2
  have r4 := sl_ins s4
  have b1 := bounds_u32 w1
  have b3 := bounds_u16' w3
  have b5 := bounds_u16' w5
  have hlen : x0.length ≤ 9223372036854775807 := by have h1 := s0.1; have h2 := s0.2.1; unfold maxLen at h2; omega
  refine ⟨⟨a0, x0.length, cap0, fun i => x0.getD i 0, x1, a2, x2.length, cap2, fun i => x2.getD i 0, x3, a4, x4.length, cap4, fun i => x4.getD i Ins.nix, x5, x6⟩, ?_, ⟨r0.1, fun i hi => bounds_u32 (r0.2 i hi), hlen, b1.1, b1.2, r2.1, fun i hi => bounds_u8' (r2.2 i hi), b3.1, b3.2, r4.1, r4.2, b5.1, b5.2⟩⟩
  refine List.ext_getElem? fun j => ?_
  match j with
  | 0 => exact e0
  | 1 => exact e1
  | 2 => exact e2
  | 3 => exact e3
  | 4 => exact e4
  | 5 => exact e5
  | 6 => exact e6
  | j + 7 => rw [List.getElem?_eq_none (by omega), List.getElem?_eq_none (by simp [St.cells])]
end Go.Proofs.YtldmglodjafklaaGreat.Cp
