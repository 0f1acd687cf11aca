/- ExeW, Cpu, Sl21, Env, Made06, ReadA, HvyA, XoG, PbB, PbE, PsP, PsW in one text. -/
import Derived.Test.YtnpicaigdfnmfaaGreatPnPbNil
import Derived.WalkKit
import Derived.RowKit3
import Derived.Lib.Hide
import Derived.Laws.BytesArg
import Derived.Laws.IdiomStrings
import Derived.Laws.BitsAllLaws
import Derived.Laws.Bits64
import Derived.Laws.OwnMore
import Derived.OwnWalk
import Derived.WalkSmall
import Derived.Lib.IndexBytes
import Derived.Test.YtnpicaigdfnmfaaGreatProg
import Derived.WalkSpells
import Derived.WalkLawsBesides
import Derived.Maps.RangeWalk
import Derived.Laws.Rows
import Derived.LoopTactic
import Derived.Outline
import Derived.Maps.OwnSet
import Derived.ArgAppend
import Derived.Deep.AppendLies
import Derived.RangeFuncBox
import Derived.Deep.RegionLaw
import Derived.Deep.QuietTactic
import Derived.BigQuiet
import Derived.RangeFuncLeaves
import Derived.RangeFuncBound
import Derived.Shelf.Abstract
import Derived.OwnWalkIn
import Derived.TacticsInMore
import Derived.RegionIn
import Derived.LoopNIn
import Derived.LoopIn
import Derived.Maps.AppendAt
import Derived.Sort.MapsRangeIn
import Derived.Sort.Row
import Derived.Sort.LotA
import Derived.Sort.LotB
import Derived.Sort.LotC
import Derived.Sort.LotD3
import Derived.BigGuard
import Derived.BigCall
import Derived.CellFam
import Derived.Deep.Draws
import Derived.RegionTactic
import Derived.Deep.DeepCutAuto
import Derived.Sort.LotD1
import Derived.Lib.BitFns
import Derived.Lib.Strings
import Derived.Deep.RegionHeld3
import Derived.Deep.MidRow
import Derived.Lib.SliceRun
import Derived.Shelf.RegionOpenPlain
import Derived.Laws.IdiomCopy
import Derived.Lib.AppendZeros
import Derived.Lib.Overlaps
import Derived.Laws.EntriesVeiled
import Derived.Maps.Own
import Derived.Laws.Tables
import Derived.Laws.CopyOwn
import Derived.Deep.RegionWith
import Derived.Deep.Slices
import Derived.Deep.Fields
import Derived.ChangeSame
import Derived.SizedLaws
import Derived.ChangeArms
import Derived.Below
import Derived.OpenShut
import Derived.ChangeAlike
import Derived.BigRegion
import Derived.LoopN
import Derived.StillTailTactics
import Derived.Laws.MakeOwn
import Derived.Shelf.Bits.Mul64
namespace Go.Proofs.YtnpicaigdfnmfaaGreat
open Go.RowKit Word
set_option linter.unusedVariables false
namespace Cp
end Cp
end Go.Proofs.YtnpicaigdfnmfaaGreat
namespace Go.Proofs.YtnpicaigdfnmfaaGreat
open Go.RowKit Word
set_option linter.unusedVariables false
end Go.Proofs.YtnpicaigdfnmfaaGreat
namespace Go.Proofs.YtnpicaigdfnmfaaGreat
open Go.RowKit Word
set_option linter.unusedVariables false
namespace Cp
end Cp
end Go.Proofs.YtnpicaigdfnmfaaGreat
namespace Go.Proofs.YtnpicaigdfnmfaaGreat.Sl
open Go.RowKit Pag
set_option linter.unusedVariables false
set_option linter.unusedSimpArgs false
set_option maxRecDepth 100000 in
set_option maxHeartbeats 4000000 in
theorem clone {w : World} {v : Value} {xs : List Int} (h : Lst w v xs) (hs : xs.length ≤ 2000000) :
    Calls Tryz.prog 60 #[v] w fun e w' => ∃ v', e = .returned v' ∧ Lst w' v' xs ∧ (∀ b, v'.ownBlock = some b → w.heap.size ≤ b) ∧ Below w.heap.size w w' := by
  obtain ⟨i0, hi0, hz0, hz1, hz2⟩ := info_parts infoU32
  have H := Lib.hid h
  rcases h.2 with ⟨h0, a, rfl⟩ | ⟨g, off, cap, cur, rfl, hg, hnc, hcm, hcs, hc⟩
  · obtain rfl : xs = [] := List.length_eq_zero_iff.1 h0
    clear h h0
    cases a with
    | none =>
      go_enter Tryz.func60, Tryz.ntmps60
      have hq := fun W => Lib.run_eql_slice_nil (P := Tryz.prog) W _ _ none 0 0 0 0 Tryz.underlying41
      go_wp2
      first
        | (go_ret; exact ⟨_, rfl, H.out, fun b hb => (nomatch hb), Below.refl _ _⟩)
        | (refine bodyPost_ret (v := .slice none 0 0) (by simp [results, Tryz.results60, go_sem, *]) rfl ?_; exact ⟨_, rfl, H.out, fun b hb => (nomatch hb), Below.refl _ _⟩)
    | some a =>
      have hq := fun W => Lib.run_eql_slice_nil (P := Tryz.prog) W _ _ (some a) 0 0 0 0 Tryz.underlying41
      go_enter Tryz.func60, Tryz.ntmps60
      have HB : Hid (Below w.heap.size w (w.alloc (.cells #[] 42))) := Lib.hid ((Below.refl _ _).alloc (Nat.le_refl _) _)
      have HL : Hid (Lst (w.alloc (.cells #[] 42)) (.slice (some ⟨w.heap.size, 0, none⟩) 0 0) []) := Lib.hid ⟨rfl, .inl ⟨rfl, _, rfl⟩⟩
      go_wp2
      go_ret
      exact ⟨_, rfl, HL.out, fun b hb => by injection hb with hb; exact Nat.le_of_eq hb, HB.out⟩
  · obtain ⟨n, hn⟩ : ∃ n, xs.length = n := ⟨_, rfl⟩
    rw [hn] at h hs hnc hc ⊢
    have hq := fun W => Lib.run_eql_slice_nil (P := Tryz.prog) W _ _ (some ⟨g, off, none⟩) n cap 0 0 Tryz.underlying41
    have hcl : ∀ j u, (xs.map encU)[j]? = some u → (w.alloc (.cells #[] 42)).cell? ((⟨g, off, none⟩ : Addr).add j) = some u := fun j u hu => by
      have hj : j < n := by have := (List.getElem?_eq_some_iff.1 hu).1; simpa [hn] using this
      rw [Addr.add_lit]
      unfold World.cell?
      rw [Below.heap_alloc _ _ _ (lQ hg), hg]
      exact (hc j (by omega)).trans hu
    clear h hg hnc hcm hcs hc
    by_cases h0 : n = 0
    · subst h0
      obtain rfl : xs = [] := List.length_eq_zero_iff.1 hn
      have HB : Hid (Below w.heap.size w (w.alloc (.cells #[] 42))) := Lib.hid ((Below.refl _ _).alloc (Nat.le_refl _) _)
      have HL : Hid (Lst (w.alloc (.cells #[] 42)) (.slice (some ⟨w.heap.size, 0, none⟩) 0 0) []) := Lib.hid ⟨rfl, .inl ⟨rfl, _, rfl⟩⟩
      go_enter Tryz.func60, Tryz.ntmps60
      go_wp2
      go_ret
      exact ⟨_, rfl, HL.out, fun b hb => by injection hb with hb; exact Nat.le_of_eq hb, HB.out⟩
    · have HB : Hid (Below w.heap.size w (w.alloc (.cells #[] 42))) := Lib.hid ((Below.refl _ _).alloc (Nat.le_refl _) _)
      have HN : Hid (SlV (w.alloc (.cells #[] 42)) 42 1 (.slice (some ⟨w.heap.size, 0, none⟩) 0 0) 0 []) := Lib.hid ⟨rfl, .inl ⟨rfl, _, rfl⟩⟩
      have HC : Hid (∀ j u, (xs.map encU)[j]? = some u → (w.alloc (.cells #[] 42)).cell? ((⟨g, off, none⟩ : Addr).add j) = some u) := Lib.hid hcl
      have HLn := Lib.hid hn
      have hml : n ≤ maxLen := by unfold maxLen; omega
      clear hn hcl
      go_enter Tryz.func60, Tryz.ntmps60
      go_wp2_with (at_builtin; refine wpList_append_slv _ rfl _ _ 41 rfl 42 i0 (.int .u32 0) 1 4 Tryz.underlying41 hi0 hz0 hz1 hz2 rfl (by decide) _ 0 [] rfl HN.out ⟨g, off, none⟩ n cap (xs.map encU) rfl (by omega) (by rw [List.length_map, HLn.out, Nat.mul_one]) HC.out (by simp [Value.oneCell']) (by omega) (by omega) ?_; intro v2 w2 hl2 hm2 hb2)
      go_ret
      refine ⟨v2, rfl, ?_, ?_, ?_⟩
      · have := hl2
        rw [Nat.zero_add, List.nil_append, ← HLn.out] at this
        exact this
      · intro b hb
        have hb3 : v2.ownBlock = some w.heap.size ∨ ∃ k, v2.ownBlock = some k ∧ (w.alloc (.cells #[] 42)).heap.size ≤ k := hb2
        rcases hb3 with g2 | ⟨k, g2, g3⟩
        · rw [g2] at hb
          injection hb with hb
          exact Nat.le_of_eq hb
        · rw [g2] at hb
          injection hb with hb
          simp at g3
          omega
      · refine Mod.below HB.out hm2 (by simp) fun i _ hi => ?_
        injection hi with hi
        exact Nat.le_of_eq hi
end Go.Proofs.YtnpicaigdfnmfaaGreat.Sl
namespace Go.Proofs.YtnpicaigdfnmfaaGreat.Sl
open Go.RowKit Pag
set_option linter.unusedVariables false
set_option linter.unusedSimpArgs false
end Go.Proofs.YtnpicaigdfnmfaaGreat.Sl
namespace Go.Proofs.YtnpicaigdfnmfaaGreat
open Go.RowKit Word
set_option linter.unusedVariables false
set_option linter.unusedSimpArgs false
namespace En
end En
end Go.Proofs.YtnpicaigdfnmfaaGreat
namespace Go.Proofs.YtnpicaigdfnmfaaGreat
open Go.RowKit Word
set_option linter.unusedSimpArgs false
set_option linter.unusedVariables false
namespace Cp
end Cp
end Go.Proofs.YtnpicaigdfnmfaaGreat
namespace Go.Proofs.YtnpicaigdfnmfaaGreat.Rd
open Go.ChangeShapes Go.WideShapes Go.Deep
section
variable {H : Type} {enc : TypeId × Value → H} {P : Program} {w : World} {base : Nat} {spare : Nat → Bool} {held : Bool}
def Wt (P : Program) (t : TypeId) (d : DataW H) : Prop := ∀ n, n ∈ d.weights P t → n ≤ reachBytes
theorem wt_of {ts : List TypeId} {ds : List (DataW H)} (h : (DataW.weightsEach P ts ds).all (· ≤ reachBytes) = true) {j : Nat} {t : TypeId} {d : DataW H} (ht : ts[j]? = some t) (hd : ds[j]? = some d) : Wt P t d := by
  intro n hn
  have := List.all_eq_true.1 h n (DataW.weights_mem_each ht hd n hn)
  simpa using this
theorem wt_str {t : TypeId} {l : List UInt8} (h : Wt P t (.lit (.string l) : DataW H)) : l.length < 140737488355328 :=
  Nat.lt_of_le_of_lt (h l.length (by simp [DataW.weights])) (by decide)
theorem wt_field {t : TypeId} {fs : Array Field} (ht : P.underlying t = some (.struct fs)) {parts : List (DataW H)} (h : Wt P t (.agg parts)) {j : Nat} {f : Field} {d : DataW H} (hf : fs[j]? = some f) (hd : parts[j]? = some d) : Wt P f.type d := by
  intro n hn
  refine h n ?_
  simp only [DataW.weights, ht]
  exact DataW.weights_mem_each (by simpa using (show (fs.toList.map (·.type))[j]? = some f.type by simp [hf])) hd n hn
theorem mem_weightsAll {e : TypeId} {d : DataW H} {n : Nat} : ∀ {l : List (DataW H)}, d ∈ l → n ∈ d.weights P e → n ∈ DataW.weightsAll P e l
  | x :: r, hd, hn => by
    simp only [DataW.weightsAll, List.mem_append]
    rcases List.mem_cons.1 hd with rfl | h
    · exact .inl hn
    · exact .inr (mem_weightsAll h hn)
theorem wt_elem {t e : TypeId} (ht : P.underlying t = some (.slice e)) {elems sp : List (DataW H)} (h : Wt P t (.slice elems sp)) {d : DataW H} (hd : d ∈ elems) : Wt P e d := by
  intro n hn
  refine h n ?_
  simp only [DataW.weights, ht, List.mem_cons, List.mem_append]
  exact .inr (.inl (mem_weightsAll hd hn))
theorem wt_len {t e : TypeId} (ht : P.underlying t = some (.slice e)) {elems sp : List (DataW H)} (h : Wt P t (.slice elems sp)) : elems.length * P.bytesOf e < 140737488355328 := by
  have := h ((elems.length + sp.length) * P.bytesOf e) (by simp [DataW.weights, ht])
  have h2 : elems.length * P.bytesOf e ≤ (elems.length + sp.length) * P.bytesOf e := Nat.mul_le_mul_right _ (by omega)
  exact Nat.lt_of_le_of_lt (Nat.le_trans h2 this) (by decide)
variable {t : TypeId} {fuel : Nat} {v : Value} {y : DataW H × List MemPlace}
theorem rd_int {k : IntKind} (ht : P.underlying t = some (.int k)) (h : DataW.trod enc P w base spare held fuel t [v] = some y) : ∃ n, v = .int k n ∧ (Lit.int k n).wf = true := by
  obtain ⟨n, hc, _, hw⟩ := DataW.trod_int ht h
  simp at hc
  exact ⟨n, hc, hw⟩
theorem rd_str (ht : P.underlying t = some .string) (h : DataW.trod enc P w base spare held fuel t [v] = some y) (hw : Wt P t y.1) : ∃ s : ByteArray, v = .string s ∧ s.size < 140737488355328 := by
  obtain ⟨s, hc, rfl, _⟩ := DataW.trod_string ht h
  simp at hc
  have := wt_str hw
  rw [Array.length_toList] at this
  exact ⟨s, hc, this⟩
theorem rd_struct {fs : Array Field} (ht : P.underlying t = some (.struct fs)) (hone : oneCellFields P fs = true) (hC : P.cellsOf t = fs.size) {cs : List Value} (h : DataW.trod enc P w base spare held fuel t cs = some y) (hw : Wt P t y.1) :
    cs.length = fs.size ∧ ∀ (j : Nat) (f : Field), fs[j]? = some f → ∃ (v : Value) (z : DataW H × List MemPlace) (n : Nat), cs[j]? = some v ∧ DataW.trod enc P w base spare held n f.type [v] = some z ∧ Wt P f.type z.1 := by
  obtain ⟨xs, n, _, rfl, hlen, hxl, hf⟩ := DataW.trod_struct ht h
  rw [hC] at hlen
  refine ⟨hlen, fun j f hj => ?_⟩
  obtain ⟨ho, hk⟩ := hone_of hone j f hj
  have hjl : j < fs.size := (Array.getElem?_eq_some_iff.1 hj).1
  have h1 := hf j f hj
  rw [ho, hk] at h1
  have hone' : (cs.drop j).take 1 = [cs[j]'(by omega)] := by
    rw [List.drop_eq_getElem_cons (by omega)]
    rfl
  rw [hone'] at h1
  have hys : xs[j]? = some (xs[j]'(by omega)) := List.getElem?_eq_getElem (by omega)
  exact ⟨_, _, n, List.getElem?_eq_getElem (by omega), h1.trans hys, wt_field ht hw hj (by rw [List.getElem?_map, hys]; rfl)⟩
theorem list_choose {X : Type} (n : Nat) (Q : Nat → X → Prop) (h : ∀ i, i < n → ∃ x, Q i x) : ∃ xs : List X, xs.length = n ∧ ∀ i x, xs[i]? = some x → Q i x := by
  induction n with
  | zero => exact ⟨[], rfl, fun i x hx => by simp at hx⟩
  | succ n ih =>
    obtain ⟨xs, hl, hx⟩ := ih fun i hi => h i (by omega)
    obtain ⟨x, hq⟩ := h n (by omega)
    refine ⟨xs ++ [x], by simp [hl], fun i y hy => ?_⟩
    by_cases hi : i < n
    · exact hx i y (by rwa [List.getElem?_append_left (by omega)] at hy)
    · rw [List.getElem?_append_right (by omega)] at hy
      have : i - xs.length = 0 := by
        rcases Nat.eq_zero_or_pos (i - xs.length) with g | g
        · exact g
        · rw [List.getElem?_eq_none (by simp; omega)] at hy; cases hy
      rw [this] at hy
      simp at hy
      obtain rfl : i = n := by omega
      exact hy ▸ hq
def Sl {X : Type} (w : World) (C : Nat) (Q : (Nat → Option Value) → X → Prop) (a : Option Addr) (cap : Nat) (xs : List X) : Prop :=
  xs.length ≤ cap ∧ cap ≤ maxLen ∧ (xs = [] ∨ ∃ b off, a = some ⟨b, off, none⟩ ∧ ∀ i x, xs[i]? = some x → Q (fun j => w.cell? ⟨b, off + i * C + j, none⟩) x) ∧ (a = none → cap = 0)
theorem rd_slice {e : TypeId} (ht : P.underlying t = some (.slice e)) (C : Nat) (hC : P.cellsOf e = C) (hC0 : 0 < C) {X : Type} (Q : (Nat → Option Value) → X → Prop)
    (hQ : ∀ (cs : List Value) (n : Nat) (z : DataW H × List MemPlace) (g : Nat → Option Value), DataW.trod enc P w base spare held n e cs = some z → Wt P e z.1 → cs.length = C → (∀ j, j < C → g j = cs[j]?) → ∃ x, Q g x)
    (h : DataW.trod enc P w base spare held fuel t [v] = some y) (hw : Wt P t y.1) :
    ∃ (a : Option Addr) (cap : Nat) (xs : List X), v = .slice a xs.length cap ∧ Sl w C Q a cap xs ∧ xs.length * P.bytesOf e < 140737488355328 := by
  rcases open_slice ht h with ⟨hc, _⟩ | ⟨a, len, cap, m, n, D, Pl, hcs, hb, hl, hm, hmm, rfl, hi⟩
  · simp at hc
    exact ⟨none, 0, [], hc, ⟨Nat.le_refl _, Nat.zero_le _, .inl rfl, fun _ => rfl⟩, by simp⟩
  · simp at hcs
    have hml : len ≤ m := by rw [hmm]; split <;> omega
    obtain ⟨b, off, spot⟩ := a
    have hsp : 0 < len → spot = none := by
      intro h0
      obtain ⟨cs', h1, h2⟩ := hi 0 (by omega)
      rw [hC] at h1
      obtain ⟨_, hcl, hat⟩ := World.cells?_some h1
      have := hat 0 hC0
      have hz : cs'[0]? = some (cs'[0]'(by omega)) := List.getElem?_eq_getElem (by omega)
      rw [hz] at this
      cases spot with
      | none => rfl
      | some s => simp [Addr.add, World.cell?] at this; split at this <;> simp at this
    obtain ⟨xs, hxl, hx⟩ := list_choose len (fun i x => Q (fun j => w.cell? ⟨b, off + i * C + j, none⟩) x) (fun i hi' => by
      obtain ⟨cs', h1, h2⟩ := hi i (by omega)
      rw [hC] at h1
      obtain ⟨_, hcl, hat⟩ := World.cells?_some h1
      refine hQ cs' n _ _ h2 (wt_elem ht hw (List.mem_map.2 ⟨i, List.mem_range.2 hi', rfl⟩)) hcl fun j hj => ?_
      have hs := hsp (by omega)
      subst hs
      rw [← hat j hj]
      congr 1
      unfold Addr.add
      by_cases e1 : i * C = 0
      · by_cases e2 : j = 0 <;> simp [e1, e2]
      · by_cases e2 : j = 0 <;> simp [e1, e2, Nat.add_assoc])
    have hlen : len = xs.length := hxl.symm
    have hwl := wt_len ht hw
    rw [List.length_map, List.length_range] at hwl
    rw [hlen] at hcs hwl hl
    refine ⟨_, cap, xs, hcs, ⟨hl, hm, ?_, fun h => by cases h⟩, hwl⟩
    cases xs with
    | nil => exact .inl rfl
    | cons x r =>
      have hs := hsp (by rw [hlen]; simp)
      subst hs
      exact .inr ⟨b, off, rfl, hx⟩
end
end Go.Proofs.YtnpicaigdfnmfaaGreat.Rd
namespace Go.Proofs.YtnpicaigdfnmfaaGreat.Cp
open Go.RowKit
set_option linter.unusedSimpArgs false
set_option linter.unusedVariables false
def insQ (g : Nat → Option Value) (x : Ins) : Prop := (g 0 = some (.int .u8 x.op) ∧ g 1 = some (.int .u8 x.d) ∧ g 2 = some (.int .u8 x.a) ∧ g 3 = some (.int .u8 x.b) ∧ g 4 = some (.int .u32 x.imm)) ∧ x.ok
theorem bounds_u8' {n : Int} (h : (Lit.int .u8 n).wf = true) : 0 ≤ n ∧ n ≤ 255 := by
  simp [Lit.wf, IntKind.min, IntKind.max, IntKind.signed, IntKind.bits] at h
  omega
theorem bounds_u16' {n : Int} (h : (Lit.int .u16 n).wf = true) : 0 ≤ n ∧ n ≤ 65535 := by
  simp [Lit.wf, IntKind.min, IntKind.max, IntKind.signed, IntKind.bits] at h
  omega
theorem ins_read {H : Type} {enc : TypeId × Value → H} {w : World} {base : Nat} {spare : Nat → Bool} {held : Bool} (cs : List Value) (n : Nat) (z : DataW H × List MemPlace) (g : Nat → Option Value)
    (h : DataW.trod enc Tryz.prog w base spare held n 116 cs = some z) (hw : Rd.Wt Tryz.prog 116 z.1) (hl : cs.length = 5) (hg : ∀ j, j < 5 → g j = cs[j]?) : ∃ x : Ins, insQ g x := by
  obtain ⟨_, hs⟩ := Rd.rd_struct Tryz.underlying116 (by kernel_rfl) (by kernel_rfl) h hw
  obtain ⟨v0, z0, n0, e0, t0, q0⟩ := hs 0 _ rfl
  obtain ⟨x0, rfl, w0⟩ := Rd.rd_int Tryz.underlying5 t0
  obtain ⟨v1, z1, n1, e1, t1, q1⟩ := hs 1 _ rfl
  obtain ⟨x1, rfl, w1⟩ := Rd.rd_int Tryz.underlying5 t1
  obtain ⟨v2, z2, n2, e2, t2, q2⟩ := hs 2 _ rfl
  obtain ⟨x2, rfl, w2⟩ := Rd.rd_int Tryz.underlying5 t2
  obtain ⟨v3, z3, n3, e3, t3, q3⟩ := hs 3 _ rfl
  obtain ⟨x3, rfl, w3⟩ := Rd.rd_int Tryz.underlying5 t3
  obtain ⟨v4, z4, n4, e4, t4, q4⟩ := hs 4 _ rfl
  obtain ⟨x4, rfl, w4⟩ := Rd.rd_int Tryz.underlying42 t4
  have b0 := bounds_u8' w0
  have b1 := bounds_u8' w1
  have b2 := bounds_u8' w2
  have b3 := bounds_u8' w3
  have b4 := bounds_u32 w4
  exact ⟨⟨x0, x1, x2, x3, x4⟩, ⟨(hg 0 (by omega)).trans e0, (hg 1 (by omega)).trans e1, (hg 2 (by omega)).trans e2, (hg 3 (by omega)).trans e3, (hg 4 (by omega)).trans e4⟩, ⟨b0.1, b0.2, b1.1, b1.2, b2.1, b2.2, b3.1, b3.2, b4.1, b4.2⟩⟩
def numQ (k : IntKind) (g : Nat → Option Value) (x : Int) : Prop := g 0 = some (.int k x) ∧ (Lit.int k x).wf = true
theorem num_read {H : Type} {enc : TypeId × Value → H} {w : World} {base : Nat} {spare : Nat → Bool} {held : Bool} {k : IntKind} {t : TypeId} (ht : Tryz.prog.underlying t = some (.int k)) (cs : List Value) (n : Nat) (z : DataW H × List MemPlace) (g : Nat → Option Value)
    (h : DataW.trod enc Tryz.prog w base spare held n t cs = some z) (hw : Rd.Wt Tryz.prog t z.1) (hl : cs.length = 1) (hg : ∀ j, j < 1 → g j = cs[j]?) : ∃ x : Int, numQ k g x := by
  match cs, hl with
  | [v], _ =>
    obtain ⟨x, rfl, wx⟩ := Rd.rd_int ht h
    exact ⟨x, hg 0 (by omega), wx⟩
theorem sl_num {k : IntKind} {w : World} {a : Option Addr} {cap : Nat} {xs : List Int} (h : Rd.Sl w 1 (numQ k) a cap xs) : RowN k w a xs.length (fun i => xs.getD i 0) ∧ ∀ i, i < xs.length → (Lit.int k (xs.getD i 0)).wf = true := by
  obtain ⟨_, _, h, _⟩ := h
  rcases h with rfl | ⟨b, off, rfl, h⟩
  · exact ⟨fun g => absurd g (by simp), fun i hi => absurd hi (by simp)⟩
  · have hg : ∀ i, i < xs.length → xs[i]? = some (xs.getD i 0) := fun i hi => by rw [List.getD, List.getElem?_eq_getElem hi]; rfl
    have hc : ∀ i, i < xs.length → w.cell? ⟨b, off + i, none⟩ = some (.int k (xs.getD i 0)) := fun i hi => by
      have := (h i _ (hg i hi)).1
      simpa using this
    refine ⟨fun hn => ⟨b, off, rfl, ?_, hc⟩, fun i hi => (h i _ (hg i hi)).2⟩
    have := hc 0 hn
    unfold World.cell? at this
    cases hq : w.heap[b]? with
    | none => rw [hq] at this; cases this
    | some _ => exact lQ hq
theorem sl_ins {w : World} {a : Option Addr} {cap : Nat} {xs : List Ins} (h : Rd.Sl w 5 insQ a cap xs) : Code w a xs.length (fun i => xs.getD i Ins.nix) ∧ ∀ i, i < xs.length → (xs.getD i Ins.nix).ok := by
  obtain ⟨_, _, h, _⟩ := h
  rcases h with rfl | ⟨b, off, rfl, h⟩
  · exact ⟨fun g => absurd g (by simp), fun i hi => absurd hi (by simp)⟩
  · have hg : ∀ i, i < xs.length → xs[i]? = some (xs.getD i Ins.nix) := fun i hi => by rw [List.getD, List.getElem?_eq_getElem hi]; rfl
    refine ⟨fun _ => ⟨b, off, rfl, fun i hi => ?_⟩, fun i hi => (h i _ (hg i hi)).2⟩
    obtain ⟨⟨c0, c1, c2, c3, c4⟩, _⟩ := h i _ (hg i hi)
    exact ⟨c0, c1, c2, c3, c4⟩
theorem state_read {H : Type} {enc : TypeId × Value → H} {w : World} {base : Nat} {spare : Nat → Bool} {held : Bool} (cs : List Value) (n : Nat) (z : DataW H × List MemPlace)
    (h : DataW.trod enc Tryz.prog w base spare held n 46 cs = some z) (hw : Rd.Wt Tryz.prog 46 z.1) (hl : cs.length = 7) : ∃ x : St, cs = x.cells.toList ∧ x.pre w := by
  obtain ⟨_, hs⟩ := Rd.rd_struct Tryz.underlying46 (by kernel_rfl) (by kernel_rfl) h hw
  obtain ⟨v0, z0, n0, e0, t0, q0⟩ := hs 0 _ rfl
  obtain ⟨a0, cap0, x0, rfl, s0, l0⟩ := Rd.rd_slice Tryz.underlying41 1 (by kernel_rfl) (by omega) (numQ .u32) (fun cs n z g => num_read Tryz.underlying42 cs n z g) t0 q0
  obtain ⟨v1, z1, n1, e1, t1, q1⟩ := hs 1 _ rfl
  obtain ⟨x1, rfl, w1⟩ := Rd.rd_int Tryz.underlying42 t1
  obtain ⟨v2, z2, n2, e2, t2, q2⟩ := hs 2 _ rfl
  obtain ⟨a2, cap2, x2, rfl, s2, l2⟩ := Rd.rd_slice Tryz.underlying43 1 (by kernel_rfl) (by omega) (numQ .u8) (fun cs n z g => num_read Tryz.underlying5 cs n z g) t2 q2
  obtain ⟨v3, z3, n3, e3, t3, q3⟩ := hs 3 _ rfl
  obtain ⟨x3, rfl, w3⟩ := Rd.rd_int Tryz.underlying22 t3
  obtain ⟨v4, z4, n4, e4, t4, q4⟩ := hs 4 _ rfl
  obtain ⟨a4, cap4, x4, rfl, s4, l4⟩ := Rd.rd_slice Tryz.underlying44 5 (by kernel_rfl) (by omega) insQ (fun cs n z g => ins_read cs n z g) t4 q4
  obtain ⟨v5, z5, n5, e5, t5, q5⟩ := hs 5 _ rfl
  obtain ⟨x5, rfl, w5⟩ := Rd.rd_int Tryz.underlying22 t5
  obtain ⟨v6, z6, n6, e6, t6, q6⟩ := hs 6 _ rfl
  obtain ⟨x6, rfl, w6⟩ := Rd.rd_str Tryz.underlying9 t6 q6
  have r0 := sl_num s0
  have r2 := sl_num s2
  have r4 := sl_ins s4
  have b1 := bounds_u32 w1
  have b3 := bounds_u16' w3
  have b5 := bounds_u16' w5
  have hlen : x0.length ≤ 9223372036854775807 := by have h1 := s0.1; have h2 := s0.2.1; unfold maxLen at h2; omega
  refine ⟨⟨a0, x0.length, cap0, fun i => x0.getD i 0, x1, a2, x2.length, cap2, fun i => x2.getD i 0, x3, a4, x4.length, cap4, fun i => x4.getD i Ins.nix, x5, x6⟩, ?_, ⟨r0.1, fun i hi => bounds_u32 (r0.2 i hi), hlen, b1.1, b1.2, r2.1, fun i hi => bounds_u8' (r2.2 i hi), b3.1, b3.2, r4.1, r4.2, b5.1, b5.2⟩⟩
  refine List.ext_getElem? fun j => ?_
  match j with
  | 0 => exact e0
  | 1 => exact e1
  | 2 => exact e2
  | 3 => exact e3
  | 4 => exact e4
  | 5 => exact e5
  | 6 => exact e6
  | j + 7 => rw [List.getElem?_eq_none (by omega), List.getElem?_eq_none (by simp [St.cells])]
end Go.Proofs.YtnpicaigdfnmfaaGreat.Cp
namespace Go.Proofs.YtnpicaigdfnmfaaGreat
open Go.RowKit Word
set_option linter.unusedVariables false
set_option linter.unusedSimpArgs false
namespace Cp
def heavyV (x : St) : Bool := decide ((40 : Int) < x.rn) || decide ((16 : Int) < x.pn) || decide ((200 : Int) < x.cn) || decide ((2048 : Int) < x.text.size)
set_option maxRecDepth 100000 in
theorem heavy06 (w : World) (x : St) : Calls Tryz.prog 17 #[.agg x.cells] w fun e w' => e = .returned (.bool (heavyV x)) ∧ Below w.heap.size w w' := by
  have hb : Below w.heap.size w (w.alloc (.cells x.cells 46)) := (Below.refl _ _).alloc (Nat.le_refl _) _
  obtain ⟨b0, b1, b2, b3, b4, b5, b6⟩ := (⟨heap_alloc_new w _⟩ : StBox (w.alloc (.cells x.cells 46)) w.heap.size x).cells
  have HB := Lib.hid hb
  have HE : Hid (heavyV x = (decide ((40 : Int) < x.rn) || decide ((16 : Int) < x.pn) || decide ((200 : Int) < x.cn) || decide ((2048 : Int) < x.text.size))) := Lib.hid rfl
  generalize heavyV x = E at *
  unfold St.cells at *
  cases h1 : decide ((40 : Int) < x.rn) <;> cases h2 : decide ((16 : Int) < x.pn) <;> cases h3 : decide ((200 : Int) < x.cn) <;> cases h4 : decide ((2048 : Int) < x.text.size)
  all_goals
    go_enter Tryz.func17, Tryz.ntmps17
    go_wp2
    go_ret
    exact ⟨by rw [HE.out, h1, h2, h3, h4]; rfl, HB.out⟩
end Cp
end Go.Proofs.YtnpicaigdfnmfaaGreat
namespace Go.Proofs.YtnpicaigdfnmfaaGreat
open Go.RowKit
set_option linter.unusedVariables false
set_option linter.unusedSimpArgs false
namespace Ex
variable {w w' : World} {xb kb : Nat} {S : Nat → Slt} {tv : Value}
theorem cpuN (h : Ex w xb kb S tv) (n : Nat) (n1 : 1 ≤ n) (n8 : n ≤ 8) (hs : (S n).is = true) (he : (S n).env = none) : Calls Tryz.prog 29 #[.pointer (some ⟨xb, 0, none⟩), .int .i64 n] w fun r w' => r = .returned (.pointer none) ∧ w = w' := by
  have HO := Lib.hid (h.of n n1 n8 hs)
  have HEe := Lib.hid he
  clear h he
  go_enter Tryz.func29, Tryz.ntmps29
  go_wp2_with fail
  refine HO.out.mono ?_
  rintro r w1 ⟨rfl, rfl⟩
  rw [HEe.out]
  go_wp2_with fail
  refine (Ev.cpu_nil w).mono ?_
  rintro r w1 ⟨rfl, rfl⟩
  go_wp2
  go_ret
  exact ⟨rfl, rfl⟩
end Ex
end Go.Proofs.YtnpicaigdfnmfaaGreat
namespace Go.Proofs.YtnpicaigdfnmfaaGreat
open Go.RowKit Pag
set_option linter.unusedVariables false
set_option linter.unusedSimpArgs false
namespace Pr
end Pr
end Go.Proofs.YtnpicaigdfnmfaaGreat
namespace Go.Proofs.YtnpicaigdfnmfaaGreat
open Go.RowKit Pag
set_option linter.unusedVariables false
set_option linter.unusedSimpArgs false
namespace Pr
end Pr
end Go.Proofs.YtnpicaigdfnmfaaGreat
namespace Go.Proofs.YtnpicaigdfnmfaaGreat
open Go.RowKit Word
set_option linter.unusedVariables false
namespace Cp
theorem exe_two (A : List Pg) (r : List Int) (pc : Int) (x : Ins) : (exe A r pc x).kind = 2 → (exe A r pc x).A = A := by
  have hl : ∀ n, (loads A r pc x n).kind = 2 → (loads A r pc x n).A = A := fun n _ => by unfold loads; split <;> rfl
  have hs : ∀ n, (stores A r pc x n).kind = 2 → (stores A r pc x n).A = A := fun n => by
    unfold stores
    split
    · intro h
      exact absurd (show (0 : Int) = 2 from h) (by decide)
    · intro _; rfl
  unfold exe
  by_cases c0 : x.op ≤ 14
  · rw [if_pos c0]; exact fun _ => rfl
  rw [if_neg c0]
  by_cases c1 : x.op ≤ 30
  · rw [if_pos c1]; exact fun _ => rfl
  rw [if_neg c1]
  by_cases c2 : x.op = 32
  · rw [if_pos c2]; exact fun _ => rfl
  rw [if_neg c2]
  by_cases c3 : x.op = 33
  · rw [if_pos c3]; exact hl _
  rw [if_neg c3]
  by_cases c4 : x.op = 34
  · rw [if_pos c4]; exact hl _
  rw [if_neg c4]
  by_cases c5 : x.op = 35
  · rw [if_pos c5]; exact hs _
  rw [if_neg c5]
  by_cases c6 : x.op = 36
  · rw [if_pos c6]; exact hs _
  rw [if_neg c6]
  by_cases c7 : x.op = 40
  · rw [if_pos c7]; exact fun _ => rfl
  rw [if_neg c7]
  by_cases c8 : x.op = 41
  · rw [if_pos c8]; exact fun _ => rfl
  rw [if_neg c8]
  by_cases c9 : x.op = 42
  · rw [if_pos c9]; exact fun _ => rfl
  rw [if_neg c9]
  by_cases c10 : x.op = 43
  · rw [if_pos c10]; exact fun _ => rfl
  rw [if_neg c10]
  by_cases c11 : x.op = 44
  · rw [if_pos c11]; exact fun _ => rfl
  rw [if_neg c11]
  by_cases c12 : x.op = 45
  · rw [if_pos c12]; exact fun _ => rfl
  rw [if_neg c12]
  by_cases c13 : x.op = 46
  · rw [if_pos c13]; exact fun _ => rfl
  rw [if_neg c13]
  exact fun _ => rfl
theorem stp_two (A : List Pg) (r : List Int) (pc : Int) : (stp A r pc).kind = 2 → (stp A r pc).A = A := by
  unfold stp
  repeat' split
  · exact exe_two A r pc _
  · exact fun _ => rfl
  · exact fun _ => rfl
end Cp
namespace Pr
theorem step_fault {E : En} (hs : E.stop.1 = 2) : E.step.A = E.A := by
  unfold En.stop at hs
  by_cases k : E.kind ≠ 2
  · rw [if_pos k] at hs; exact absurd hs (by decide)
  · rw [if_neg k] at hs
    have hs' : (Cp.stp E.A E.r E.pc).kind = 2 := hs
    unfold En.step
    rw [if_neg k]
    simp only
    rw [if_pos hs']
    exact Cp.stp_two _ _ _ hs'
theorem run_zero {K0 : Kn} {E0 : En} {T0 : List Eve} {K : Kn} {E : En} {T : List Eve} (h : RunX 1 K0 E0 T0 0 K E T) : E.A = E0.A := by
  rcases h with ⟨h, h1, h2⟩ | ⟨E1, T1, h, h1, h2, h3, rfl, rfl⟩ | ⟨m1, K1, E1, T1, b, h, hm, _⟩
  · obtain ⟨_, rfl, _⟩ := gn_zero h; rfl
  · obtain ⟨_, rfl, _⟩ := gn_zero h; exact step_fault h3
  · omega
theorem last_snoc (L : List Int) (p : Int) : last32 (last32 L ++ [p]) = last32 (L ++ [p]) := by
  unfold last32
  have h1 : L.drop (L.length - 32) ++ [p] = (L ++ [p]).drop (L.length - 32) := (List.drop_append_of_le_length (by omega)).symm
  rw [h1, List.drop_drop]
  congr 1
  simp only [List.length_drop, List.length_append, List.length_cons, List.length_nil]
  omega
section
variable {s : Int → Bool} {x : Wt} {K0 K : Kn} {E0 E : En} {T0 T : List Eve} {f0 f : Int → Int} {c0 c : Nat} {R : List Int} {i : Nat} {at' : Int}
def Trl (at' : Int) (i : Nat) (R : List Int) : Prop := ∃ L : List Int, L.length = i ∧ R = last32 L ∧ ∀ j, 0 < j → L[j]? ≠ some at'
theorem Trl.snoc (h : Trl at' i R) {p : Int} (hp : i = 0 ∨ p ≠ at') : Trl at' (i + 1) (last32 (R ++ [p])) := by
  obtain ⟨L, h1, h2, h3⟩ := h
  refine ⟨L ++ [p], by rw [List.length_append, h1]; rfl, by rw [h2]; exact last_snoc L p, fun j hj => ?_⟩
  rcases Nat.lt_trichotomy j L.length with g | g | g
  · rw [List.getElem?_append_left g]; exact h3 j hj
  · rw [g, List.getElem?_concat_length]
    rcases hp with hp | hp
    · omega
    · intro e; exact hp (Option.some.inj e)
  · rw [List.getElem?_eq_none (by rw [List.length_append]; show L.length + 1 ≤ j; omega)]
    intro e; cases e
theorem Trl.said (h : Trl at' i R) : R.length = min i 32 ∧ ∀ j, R[j]? = some at' → j = 0 ∧ i ≤ 32 := by
  obtain ⟨L, h1, rfl, h3⟩ := h
  refine ⟨by unfold last32; rw [List.length_drop]; omega, fun j hj => ?_⟩
  unfold last32 at hj
  rw [List.getElem?_drop] at hj
  by_cases g : 0 < L.length - 32 + j
  · exact absurd hj (h3 _ g)
  · omega
theorem gw_law (hs : s at' = true) (h : Gw s x K0 E0 T0 f0 c0 [] i K E T f c R) : Sp.getS E0.A x.at' x.n 0 = Sp.getS E.A x.at' x.n 0 ∧ Trl at' i R := by
  induction h with
  | nil => exact ⟨rfl, [], rfl, rfl, fun j hj => by simp⟩
  | step h hk hb hr hg ih =>
    refine ⟨ih.1.trans hg, ih.2.snoc (hb.imp id fun z e => ?_)⟩
    rw [e, hs] at z
    cases z
theorem go_kind {m : Nat} {kd p : Int} {R0 : List Int} (h : GoX s x K0 E0 T0 f0 c0 R0 m kd p i K E T f c R) : kd = 0 ∨ kd = 1 ∨ kd = 2 ∨ kd = 3 := by
  cases h
  · exact .inl rfl
  · exact .inr (.inr (.inr rfl))
  · exact .inr (.inr (.inr rfl))
  · exact .inr (.inl rfl)
  · exact .inr (.inr (.inl rfl))
theorem go_law (hs : s at' = true) (ho : ∀ y, s y = true → y = at') {m : Nat} {kd p : Int} (h : GoX s x K0 E0 T0 f0 c0 [] m kd p i K E T f c R) :
    (kd = 2 ↔ Sp.getS E0.A x.at' x.n 0 ≠ Sp.getS E.A x.at' x.n 0) ∧ (kd = 1 → p = at' ∧ E.pc = at') ∧ Trl at' i R := by
  cases h with
  | none h =>
    obtain ⟨h1, h2⟩ := gw_law hs h
    exact ⟨⟨fun e => absurd e (by decide), fun e => absurd h1 e⟩, fun e => absurd e (by decide), h2⟩
  | over h hi hk =>
    obtain ⟨h1, h2⟩ := gw_law hs h
    exact ⟨⟨fun e => absurd e (by decide), fun e => absurd h1 e⟩, fun e => absurd e (by decide), h2⟩
  | fault h hi hk hb hr hn =>
    obtain ⟨h1, h2⟩ := gw_law hs h
    rw [run_zero hr]
    exact ⟨⟨fun e => absurd e (by decide), fun e => absurd h1 e⟩, fun e => absurd e (by decide), h2⟩
  | stop h hi hk h0 hp =>
    obtain ⟨h1, h2⟩ := gw_law hs h
    exact ⟨⟨fun e => absurd e (by decide), fun e => absurd h1 e⟩, fun _ => ⟨ho _ hp, ho _ hp⟩, h2⟩
  | watch h hi hk hb hr hn =>
    obtain ⟨h1, h2⟩ := gw_law hs h
    refine ⟨⟨fun _ => by rw [h1]; exact hn, fun _ => rfl⟩, fun e => absurd e (by decide), h2.snoc (hb.imp id fun z e => ?_)⟩
    rw [e, hs] at z
    cases z
end
end Pr
end Go.Proofs.YtnpicaigdfnmfaaGreat
namespace Go.Proofs.YtnpicaigdfnmfaaGreat.Pr
open Go.RowKit Pag
set_option linter.unusedVariables false
set_option linter.unusedSimpArgs false
theorem rowN_below {k : IntKind} {w w' : World} {a : Option Addr} {n : Nat} {f : Nat → Int} (h : Cp.RowN k w a n f) (hb : Below w.heap.size w w') : Cp.RowN k w' a n f := fun hn => by
  obtain ⟨b, off, e, hl, hc⟩ := h hn
  exact ⟨b, off, e, Nat.lt_of_lt_of_le hl hb.size, fun i hi => (World.cell?_of_block (w := w) (hb.block b hl)).trans (hc i hi)⟩
theorem st_ok {w w' : World} {x : Cp.St} (h : x.pre w) (hb : Below w.heap.size w w') (hh : Cp.heavyV x = false) : x.ok w' := by
  unfold Cp.heavyV at hh
  simp only [Bool.or_eq_false_iff, decide_eq_false_iff_not] at hh
  exact ⟨rowN_below h.rrow hb, h.rbd, h.rlen, h.p0, h.p1, rowN_below h.prow hb, h.pbd, by omega, h.a0, h.a1, h.crow.below hb, h.cbd, by omega, h.w0, h.w1, by omega⟩
theorem trail {w : World} {base pb xb mb mc k c : Nat} {n : Int} {s : Int → Bool} {wv tv : Value} {W : List Wt} {f : Int → Int} {Tr : List Int} (h : Pb w base pb xb n mb mc s k wv W f c tv Tr) (hl : Tr.length ≤ 32) : Calls Tryz.prog 28 #[.pointer (some ⟨pb, 0, none⟩)] w fun r w' => ∃ v', r = .returned v' ∧ Sl.Lst w' v' Tr ∧ Below w.heap.size w w' := by
  obtain ⟨c0, c1, c2, c3, c4, c5, _⟩ := h.cells
  have HC := Lib.hid (Sl.clone (SlV.of_own h.tr : Sl.Lst w tv Tr) (by omega))
  clear h hl
  go_enter Tryz.func28, Tryz.ntmps28
  go_wp2_with fail
  refine HC.out.mono ?_
  rintro r w1 ⟨v', rfl, h1, _, h2⟩
  go_wp2
  go_ret
  exact ⟨v', rfl, h1, h2⟩
set_option maxRecDepth 100000 in
set_option maxHeartbeats 8000000 in
theorem probeStops (w : World) (x : Cp.St) (hp : x.pre w) (a : Int) (a0 : 0 ≤ a) (a1 : a ≤ 4294967295) (b : Int) (b0 : 0 ≤ b) (b1 : b ≤ 4294967295) (n : Int) (n0 : 0 ≤ n) (n1 : n ≤ 255) (m : Int) (m0 : 0 ≤ m) (m1 : m ≤ 65535) :
    Calls Tryz.prog 4 #[.agg x.cells, .int .u32 a, .int .u32 b, .int .u8 n, .int .u16 m] w fun r w' => r = .returned (.bool true) ∧ Below w.heap.size w w' := by
  generalize hPQ : (fun (r : Ending) (w' : World) => r = .returned (.bool true) ∧ Below w.heap.size w w') = PQ
  have HPQ : Hid (∀ V, Below w.heap.size w V → PQ (.returned (.bool true)) V) := Lib.hid fun V h => by rw [← hPQ]; exact ⟨rfl, h⟩
  clear hPQ
  have hA := (Below.refl w.heap.size w).alloc (Nat.le_refl _) (.cells x.cells 46)
  obtain ⟨c0, c1, c2, c3, c4, c5, c6⟩ := (⟨heap_alloc_new w _⟩ : Cp.StBox (w.alloc (.cells x.cells 46)) w.heap.size x).cells
  obtain ⟨w1, hw1⟩ : ∃ y, w.alloc (.cells x.cells 46) = y := ⟨_, rfl⟩
  rw [hw1] at hA c0 c1 c2 c3 c4 c5 c6
  have HA := Lib.hid hA
  have hbk : w1.heap[w.heap.size]? = some (.cells x.cells 46 (0, 0)) := by rw [← hw1]; exact heap_alloc_new w _
  have HBk := Lib.hid hbk
  have HHv := Lib.hid (Cp.heavy06 w1 x)
  have HOk : Hid (Cp.heavyV x = false → ∀ V, Below w1.heap.size w1 V → x.ok V) := Lib.hid fun hh V hV => st_ok hp (bQ hA hV) hh
  have HOne := Lib.hid fun V => one V x
  have hwm := m1
  obtain ⟨m', rfl⟩ := Int.eq_ofNat_of_zero_le m0
  obtain ⟨q, hq⟩ : ∃ q : Nat, m' % 400 = q := ⟨_, rfl⟩
  have hq5 : q < 400 := by omega
  have hqt : (m' : Int).tmod 400 = q := by rw [Int.tmod_eq_emod_of_nonneg (by omega)]; omega
  have hqe : (m' : Int) % 400 = q := by omega
  obtain ⟨n', rfl⟩ := Int.eq_ofNat_of_zero_le n0
  obtain ⟨z, hz⟩ : ∃ z : Nat, n' % 64 = z := ⟨_, rfl⟩
  have hz5 : z < 64 := by omega
  have hzt : (n' : Int).tmod 64 = z := by rw [Int.tmod_eq_emod_of_nonneg (by omega)]; omega
  have hze : (n' : Int) % 64 = z := by omega
  clear hq hz hA hp hbk
  unfold Cp.St.cells at hw1 HHv HOne ⊢
  cases hh : Cp.heavyV x with
  | true =>
    have HH := Lib.hid hh
    clear hh
    go_enter Tryz.func4, Tryz.ntmps4
    go_wp2_with fail
    refine HHv.out.mono ?_
    rintro r w2 ⟨rfl, hb2⟩
    rw [HH.out]
    have HB2 := Lib.hid (bQ HA.out hb2)
    clear hb2
    go_wp2_with fail
    refine (alive43 _).mono ?_
    rintro r w3 ⟨rfl, hb3⟩
    have HE := Lib.hid (HPQ.out w3 (bQ HB2.out hb3))
    clear hb3
    go_wp2
    first | exact HE.out | (go_ret; exact HE.out)
  | false =>
    have HOk2 := Lib.hid (HOk.out hh)
    have HH := Lib.hid hh
    clear hh HOk
    go_enter Tryz.func4, Tryz.ntmps4
    go_wp2_with fail
    refine HHv.out.mono ?_
    rintro r w2 ⟨rfl, hb2⟩
    rw [HH.out]
    have HB2 := Lib.hid hb2
    obtain ⟨d0, d1, d2, d3, d4, d5, d6⟩ := (⟨(hb2.block _ (lQ HBk.out)).trans HBk.out⟩ : Cp.StBox w2 w.heap.size x).cells
    clear hb2 HH HHv c0 c1 c2 c3 c4 c5 c6 hw1
    go_wp2_with fail
    refine (HOne.out w2).mono ?_
    rintro r w3 ⟨lb, rfl, hl3, hlb, hb3⟩
    have HBg := Lib.hid (begun x (fun V hV => HOk2.out V (bQ HB2.out (bQ hb3 hV))) hl3)
    have HB3 := Lib.hid (bQ HA.out (bQ HB2.out hb3))
    clear hl3 hlb hb3 HOne HOk2 d0 d1 d2 d3 d4 d5 d6 HB2 HBk HA
    go_wp2_with fail
    refine HBg.out.mono ?_
    rintro r w4 ⟨xb, ka, rb, sb, kd', rfl, (⟨g1, hpx⟩ | ⟨g1, e, C, fb, hpx, hen, hco, hef⟩)⟩
    · have HB4 := Lib.hid (HB3.out.trans (hpx.bel.mono HB3.out.size))
      have hE : Calls Tryz.prog 22 #[.pointer (some ⟨rb, 0, none⟩), .int .i64 1] w4 fun e w' => e = .returned (.pointer none) ∧ w4 = w' := hpx.d.env 1 (by omega) (by omega) rfl
      have HE := Lib.hid hE
      have HN := Lib.hid (new_no w4 xb 1 (Ex.cpuN hpx.x 1 (by omega) (by omega) rfl rfl))
      clear hpx hE g1 HBg HB3
      go_wp2_with fail
      refine HN.out.mono ?_
      rintro r w5 ⟨rfl, rfl⟩
      go_wp2_with fail
      refine HE.out.mono ?_
      rintro r w5 ⟨rfl, rfl⟩
      go_wp2_with fail
      refine (alive43 w4).mono ?_
      rintro r w5 ⟨rfl, hb5⟩
      have HE := Lib.hid (HPQ.out w5 (HB4.out.trans (hb5.mono HB4.out.size)))
      clear hb5
      go_wp2
      first | exact HE.out | (go_ret; exact HE.out)
    · obtain ⟨E, he1, he2, he3, he4⟩ : ∃ E : En, Env w4 e E ∧ E.kind = 2 ∧ E.num = 1 ∧ ∀ k, e.foot E.A k → ka.tag k = 0 ∧ k ≠ xb ∧ w3.heap.size ≤ k := ⟨_, hen, rfl, rfl, hef⟩
      have hE : Calls Tryz.prog 22 #[.pointer (some ⟨rb, 0, none⟩), .int .i64 1] w4 fun e w' => e = .returned (.pointer (some ⟨fb, 0, none⟩)) ∧ w4 = w' := hpx.d.env 1 (by omega) (by omega) rfl
      have HPx := Lib.hid hpx
      have HEn := Lib.hid he1
      have HNm := Lib.hid (And.intro he3 he4)
      have HDe := Lib.hid fun V (hV : Below w4.heap.size w4 V) => (show Calls Tryz.prog 22 #[.pointer (some ⟨rb, 0, none⟩), .int .i64 1] V fun e w' => e = .returned (.pointer (some ⟨fb, 0, none⟩)) ∧ V = w' from (HPx.out.below hV).d.env 1 (by omega) (by omega) rfl)
      clear hpx hen hco hef he1 he2 he3 he4 hE g1 HBg
      go_wp2_with fail
      refine (new w4 xb 1 (cb := e.cb) fun V hV => Ex.cpuS (HPx.out.x.below hV) 1 (by omega) (by omega) rfl rfl (HEn.out.below hV)).mono ?_
      rintro r w6 ⟨pb, mb, mc, rfl, hp6, hb6⟩
      have HP6 := Lib.hid hp6
      have HB6 := Lib.hid hb6
      clear hp6 hb6
      go_wp2_with fail
      refine (HDe.out w6 HB6.out).mono ?_
      rintro r w7 ⟨rfl, rfl⟩
      go_wp2_with fail
      refine (break' HP6.out a a0 a1 (by omega)).mono ?_
      rintro r w7 (⟨h, _⟩ | ⟨_, rfl, hp7, hm7⟩)
      · cases h
      have HP7 := Lib.hid hp7
      have HM7 := Lib.hid hm7
      clear hp7 hm7
      go_wp2_with fail
      refine (watch HP7.out b (1 + z) (by omega) (by omega) (by simp)).mono ?_
      rintro r w8 ⟨rfl, wv, hp8, hm8, _⟩
      obtain ⟨g, cap, rfl, hpe, hbl, hol⟩ := laid HPx.out HEn.out HNm.out.1 HNm.out.2 HB6.out HM7.out hm8 hp8
      obtain ⟨s, hs1, hs2, hpe⟩ : ∃ s : Int → Bool, s a = true ∧ (∀ y, s y = true → y = a) ∧ Pe w8 w4.heap.size xb (s43 (some e.eb)) (.slice none 0 0) [] ka k44 e E 1 pb mb mc s (0 + 1) g cap ⟨{ data := #[] }, b, 1 + z⟩ (fun _ => 0) 0 (.slice none 0 0) [] := ⟨_, if_pos rfl, fun y h => Decidable.byContradiction fun n => by rw [if_neg n] at h; exact absurd h (by decide), hpe⟩
      have HPe := Lib.hid hpe
      have HBl := Lib.hid (HB3.out.trans (hbl.mono HB3.out.size))
      have HOl := Lib.hid hol
      have HSz := Lib.hid (And.intro hbl HB3.out.size)
      have HS := Lib.hid (And.intro hs1 hs2)
      clear hp8 hm8 hpe hbl hol hs1 hs2 HPx HEn HNm HDe HP6 HB6 HP7 HM7
      go_wp2_with fail
      refine (HPe.out.xq.s w8 (Below.refl _ _)).mono ?_
      rintro r w9 ⟨rfl, rfl⟩
      go_wp2_with fail
      refine (Sp.look HPe.out.xq.p b (1 + z) b0 b1).mono ?_
      rintro r w9 ⟨rfl, hb9⟩
      obtain ⟨was, hwas⟩ : ∃ y, Sp.getS E.A b (1 + z) 0 = y := ⟨_, rfl⟩
      obtain ⟨er, her⟩ : ∃ y, Sp.getE E.A b (1 + z) 0 = y := ⟨_, rfl⟩
      rw [hwas, her]
      clear her
      have HWas := Lib.hid hwas
      have HGo := Lib.hid (go (HPe.out.below hb9) q (by omega) b0 b1 (by decide) (by decide) (fun y => by decide) (by decide) (by decide))
      have HBl9 := Lib.hid (HSz.out.1.trans (hb9.mono HSz.out.1.size))
      clear hwas hb9 HPe
      go_wp2_with fail
      refine HGo.out.mono ?_
      rintro r w10 ⟨kd, p, k, tv1, T1, ka1, K1, ea1, E1, sn1, f1, c1, tw1, R, rfl, hpe, hgo, has⟩
      obtain ⟨hbl, hol⟩ := has.old HBl9.out HBl9.out.size HOl.out
      obtain ⟨hlw1, hlw2, htr⟩ := go_law HS.out.1 HS.out.2 hgo
      have hkd := go_kind hgo
      obtain ⟨hp11, hn11, _, hb11⟩ := boxed hpe kd p 0
      obtain ⟨hb, hhb⟩ : ∃ y, w10.heap.size = y := ⟨_, rfl⟩
      obtain ⟨w11, hw11⟩ : ∃ y, w10.alloc (.cells #[.int .u8 kd, .int .u32 p, .int .i64 0] 65) = y := ⟨_, rfl⟩
      rw [hw11] at hp11 hn11 hb11
      rw [hhb] at hn11
      have HP11 := Lib.hid hp11
      have HN11 := Lib.hid hn11
      have HBl11 := Lib.hid (HB3.out.trans ((hbl.trans (hb11.mono hbl.size)).mono HB3.out.size))
      have HLw := Lib.hid (And.intro hlw1 (And.intro hlw2 (And.intro htr hkd)))
      have HWw := Lib.hid hw11
      have HBb := Lib.hid hhb
      clear hpe hgo has hbl hol hlw1 hlw2 htr hkd hp11 hn11 hb11 hw11 hhb HGo HBl HBl9 HOl HSz HS
      unfold hit
      go_wp2_with fail
      rw [HWw.out, HBb.out]
      clear HWw HBb
      refine (HP11.out.xq.s w11 (Below.refl _ _)).mono ?_
      rintro r w12 ⟨rfl, rfl⟩
      go_wp2_with fail
      refine (Sp.look HP11.out.xq.p b (1 + z) b0 b1).mono ?_
      rintro r w12 ⟨rfl, hb12⟩
      obtain ⟨now, hnow⟩ : ∃ y, Sp.getS E1.A b (1 + z) 0 = y := ⟨_, rfl⟩
      obtain ⟨er2, her⟩ : ∃ y, Sp.getE E1.A b (1 + z) 0 = y := ⟨_, rfl⟩
      rw [hnow, her]
      clear her
      have HL : Hid ((kd = 2 ↔ was ≠ now) ∧ (kd = 1 → p = a ∧ E1.pc = a) ∧ Trl a k R ∧ (kd = 0 ∨ kd = 1 ∨ kd = 2 ∨ kd = 3)) := Lib.hid (by rw [← HWas.out, ← hnow]; exact HLw.out)
      have HP12 := Lib.hid (HP11.out.below hb12)
      have HN12 := Lib.hid ((hb12.block _ (lQ HN11.out)).trans HN11.out)
      have HBl12 := Lib.hid (HBl11.out.trans (hb12.mono HBl11.out.size))
      clear hnow hb12 HLw HWas HP11 HN11 HBl11
      have hsd := HL.out.2.2.1.said
      have HTr := Lib.hid (trail HP12.out.pr (by omega))
      have HSd := Lib.hid hsd
      clear hsd
      go_wp2_with fail
      refine HTr.out.mono ?_
      rintro r w13 ⟨tv, rfl, hls, hb13⟩
      obtain ⟨ta, tc, rfl, hwd⟩ := hls.words (by have := HSd.out.1; omega)
      have HP13 := Lib.hid (HP12.out.below hb13)
      have hn13 := (hb13.block _ (lQ HN12.out)).trans HN12.out
      obtain ⟨d0, d1, d2, _⟩ := hit_cells hn13
      have HBl13 := Lib.hid (HBl12.out.trans (hb13.mono HBl12.out.size))
      have HWd := Lib.hid hwd
      clear hls hb13 hn13 hwd HTr HP12 HN12 HBl12
      go_upto_region 16 with fail
      go_cut [131] (fun v wx => v = .bool false ∧ wx = w13)
      case first =>
        obtain ⟨hl1, hl2, _, hkd⟩ := HL.out
        rcases hkd with rfl | rfl | rfl | rfl
        · obtain rfl : was = now := Decidable.byContradiction fun n => absurd (hl1.2 n) (by decide)
          clear hl1 hl2
          go_wp2_with fail
          go_meet
          exact ⟨rfl, rfl⟩
        · obtain rfl : was = now := Decidable.byContradiction fun n => absurd (hl1.2 n) (by decide)
          obtain ⟨hpa, hpc⟩ := hl2 rfl
          have HPc := Lib.hid hpc
          have HPa := Lib.hid hpa
          rw [hpa] at d1
          clear hl1 hl2 hpc hpa
          go_wp2_with fail
          refine (HP13.out.xq.c w13 (Below.refl _ _)).mono ?_
          rintro r w14 ⟨rfl, rfl⟩
          go_wp2_with fail
          refine (Cp.pc_ok HP13.out.xq.g).mono ?_
          rintro r w14 ⟨rfl, rfl⟩
          rw [HPc.out]
          go_wp2_with fail
          go_meet
          exact ⟨rfl, rfl⟩
        · have hbq : (was.toList == now.toList) = false := by rw [str_beq]; exact decide_eq_false (hl1.1 rfl)
          clear hl1 hl2
          go_wp2_with fail
          go_meet
          exact ⟨rfl, rfl⟩
        · obtain rfl : was = now := Decidable.byContradiction fun n => absurd (hl1.2 n) (by decide)
          clear hl1 hl2
          go_wp2_with fail
          go_meet
          exact ⟨rfl, rfl⟩
      case rest =>
        obtain ⟨rfl, rfl⟩ := hcut
        clear d0 d1 d2
        go_wp2_with fail
        go_loopw [24] (fun vi wr => ∃ i : Nat, vi = .int .i64 i ∧ i ≤ R.length ∧ wr = wc) (fun vi wr => R.length - (intOf vi).toNat)
        case atStart => exact ⟨0, rfl, by omega, rfl⟩
        case round =>
          obtain ⟨i, rfl, hi, rfl⟩ := hrel
          have hrl : R.length ≤ 32 := by have := HSd.out.1; omega
          have hrl' : (R.length : Int) ≤ 32 := by omega
          by_cases hin : i < R.length
          · have hin' : (i : Int) < R.length := by omega
            obtain ⟨tb, tz, rfl, hc⟩ := HWd.out.cell i hin
            have hy : R[i]? = some R[i] := List.getElem?_eq_getElem hin
            have hsd := HSd.out.2 i
            rw [hy] at hsd
            obtain ⟨y, hye⟩ : ∃ y, R[i] = y := ⟨_, rfl⟩
            rw [hye] at hsd hc
            clear hy hye
            by_cases hya : y = a
            · rw [hya] at hsd hc
              obtain ⟨hi0, hk⟩ := hsd rfl
              have hk32 : ¬ ((32 : Int) < k) := by omega
              have hk32b : decide ((32 : Int) < k) = false := decide_eq_false hk32
              subst hi0
              rw [Nat.add_zero] at hc
              clear hsd hya hi
              go_wp2
              go_roundw
              case rel => exact ⟨1, rfl, by omega, trivial⟩
              case measure =>
                simp only [intOf]
                omega
            · have hyb : (y == a) = false := by simp [hya]
              clear hsd hi
              go_wp2
              go_roundw
              case rel => exact ⟨i + 1, rfl, by omega, trivial⟩
              case measure =>
                simp only [intOf]
                omega
          · have hln := HSd.out.1
            obtain rfl : i = R.length := by omega
            obtain ⟨L, hL⟩ : ∃ L, R.length = L := ⟨_, rfl⟩
            rw [hL] at hln ⊢
            clear hi hin hrl hrl' hL
            rcases Nat.lt_or_ge k 33 with hk | hk
            · obtain rfl : L = k := by omega
              have hk1 : (L : Int) ≤ 32 := by omega
              have hk2 : ¬ ((32 : Int) < L) := by omega
              have hmi : min (L : Int) 32 = L := by omega
              clear hln hk
              go_wp2_with fail
              refine (alive43 _).mono ?_
              rintro r w15 ⟨rfl, hb15⟩
              have HE := Lib.hid (HPQ.out w15 (HBl13.out.trans (hb15.mono HBl13.out.size)))
              clear hb15
              go_wp2
              first | exact HE.out | (go_ret; exact HE.out)
            · obtain rfl : L = 32 := by omega
              have hk1 : ¬ ((k : Int) ≤ 32) := by omega
              have hk2 : ¬ ((k : Int) < 32) := by omega
              have hmi : min (k : Int) 32 = 32 := by omega
              clear hln hk
              go_wp2_with fail
              refine (alive43 _).mono ?_
              rintro r w15 ⟨rfl, hb15⟩
              have HE := Lib.hid (HPQ.out w15 (HBl13.out.trans (hb15.mono HBl13.out.size)))
              clear hb15
              go_wp2
              first | exact HE.out | (go_ret; exact HE.out)
end Go.Proofs.YtnpicaigdfnmfaaGreat.Pr
