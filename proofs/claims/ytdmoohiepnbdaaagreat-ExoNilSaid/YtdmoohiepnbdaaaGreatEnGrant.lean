/- Grant: Cl, CapN, CapF, Grant, RegL, GrantW, GrantK in one text. -/
import Derived.Test.YtdmoohiepnbdaaaGreatEnSlv
import Derived.Test.YtdmoohiepnbdaaaGreatEnKnM
import Derived.Lib.Hide
import Derived.Outline
import Derived.Test.YtdmoohiepnbdaaaGreatEnPag
import Derived.Laws.EntriesVeiled
import Derived.LoopN
import Derived.Test.YtdmoohiepnbdaaaGreatEnEnvX
namespace Go.Proofs.YtdmoohiepnbdaaaGreat.Cl
open Go.RowKit
set_option linter.unusedVariables false
set_option linter.unusedSimpArgs false
def At (w : World) (a : Option Addr) (xs : List Value) : Prop := ∀ (j : Nat) (u : Value), xs[j]? = some u → ∃ g o, a = some ⟨g, o, none⟩ ∧ w.cell? ⟨g, o + j, none⟩ = some u
theorem At.below {w w' : World} {a : Option Addr} {xs : List Value} (h : At w a xs) (hb : Below w.heap.size w w') : At w' a xs := fun j u hu => by
  obtain ⟨g, o, e, hc⟩ := h j u hu
  have hl : g < w.heap.size := by
    unfold World.cell? at hc
    cases hg : w.heap[g]? with
    | none => rw [hg] at hc; cases hc
    | some _ => exact lt_of_block hg
  exact ⟨g, o, e, (World.cell?_of_block (w := w) (hb.block _ hl)).trans hc⟩
set_option maxRecDepth 100000 in
theorem info_u32 : (Tryz.prog.info? 41).map (fun i => (i.zero, i.size, i.bytes)) = some (some (.int .u32 0), 1, 4) := by kernel_rfl
set_option maxRecDepth 100000 in
set_option maxHeartbeats 4000000 in
theorem clone_u32 {w : World} {a : Option Addr} {n cap : Nat} {xs : List Value} (hl : xs.length = n * 1) (hc : At w a xs) (hs : n ≤ 2000000) (h1 : ∀ u, u ∈ xs → u.oneCell' = true) :
    Calls Tryz.prog 127 #[.slice a n cap] w fun e w' => ∃ v', e = .returned v' ∧ SlV w' 41 1 v' n xs ∧ (∀ b, v'.ownBlock = some b → w.heap.size ≤ b ∧ b < w'.heap.size) ∧ Below w.heap.size w w' := by
  obtain ⟨i0, hi0, hz0, hz1, hz2⟩ := info_parts info_u32
  by_cases h0 : n = 0
  · subst h0
    obtain rfl : xs = [] := List.length_eq_zero_iff.1 (by omega)
    clear hc
    cases a with
    | none =>
      have hq := fun W => Lib.run_eql_slice_nil (P := Tryz.prog) W _ _ none 0 cap 0 0 Tryz.underlying57
      go_enter Tryz.func127, Tryz.ntmps127
      go_wp2
      first
        | (go_ret; exact ⟨_, rfl, SlV.nil _ _ _, fun b hb => (nomatch hb), Below.refl _ _⟩)
        | (refine bodyPost_ret (v := .slice none 0 0) (by simp [results, Tryz.results127, go_sem, *]) rfl ?_; exact ⟨_, rfl, SlV.nil _ _ _, fun b hb => (nomatch hb), Below.refl _ _⟩)
    | some p =>
      have hq := fun W => Lib.run_eql_slice_nil (P := Tryz.prog) W _ _ (some p) 0 cap 0 0 Tryz.underlying57
      have HB : Hid (Below w.heap.size w (w.alloc (.cells #[] 41))) := Lib.hid ((Below.refl _ _).alloc (Nat.le_refl _) _)
      have HL : Hid (SlV (w.alloc (.cells #[] 41)) 41 1 (.slice (some ⟨w.heap.size, 0, none⟩) 0 0) 0 []) := Lib.hid ⟨rfl, .inl ⟨rfl, _, rfl⟩⟩
      go_enter Tryz.func127, Tryz.ntmps127
      go_wp2
      go_ret
      exact ⟨_, rfl, HL.out, fun b hb => by injection hb with hb; exact ⟨Nat.le_of_eq hb, by rw [← hb]; simp⟩, HB.out⟩
  · obtain ⟨u, hu⟩ : ∃ u, xs[0]? = some u := ⟨_, List.getElem?_eq_getElem (by omega)⟩
    obtain ⟨g, off, rfl, _⟩ := hc 0 u hu
    have hcl : ∀ j u, xs[j]? = some u → (w.alloc (.cells #[] 41)).cell? ((⟨g, off, none⟩ : Addr).add j) = some u := fun j u hu => by
      obtain ⟨g', o', e, hcc⟩ := hc j u hu
      simp only [Option.some.injEq, Addr.mk.injEq, and_true] at e
      obtain ⟨rfl, rfl⟩ := e
      have hlt : g < w.heap.size := by
        unfold World.cell? at hcc
        cases hg : w.heap[g]? with
        | none => rw [hg] at hcc; cases hcc
        | some _ => exact lt_of_block hg
      rw [Addr.add_lit]
      exact (World.cell?_of_block (w := w) (Below.heap_alloc _ _ _ hlt)).trans hcc
    have hq := fun W => Lib.run_eql_slice_nil (P := Tryz.prog) W _ _ (some ⟨g, off, none⟩) n cap 0 0 Tryz.underlying57
    have HB : Hid (Below w.heap.size w (w.alloc (.cells #[] 41))) := Lib.hid ((Below.refl _ _).alloc (Nat.le_refl _) _)
    have HN : Hid (SlV (w.alloc (.cells #[] 41)) 41 1 (.slice (some ⟨w.heap.size, 0, none⟩) 0 0) 0 []) := Lib.hid ⟨rfl, .inl ⟨rfl, _, rfl⟩⟩
    have HC := Lib.hid hcl
    have HLn := Lib.hid hl
    have H1 := Lib.hid h1
    have hml : n ≤ maxLen := by unfold maxLen; omega
    clear hcl hc hl h1 hu
    go_enter Tryz.func127, Tryz.ntmps127
    go_wp2_with (at_builtin; refine wpList_append_slv _ rfl _ _ 57 rfl 41 i0 (.int .u32 0) 1 4 Tryz.underlying57 hi0 hz0 hz1 hz2 rfl (by decide) _ 0 [] rfl HN.out ⟨g, off, none⟩ n cap xs rfl (by omega) HLn.out HC.out H1.out (by omega) (by omega) ?_; intro v2 w2 hl2 hm2 hb2)
    go_ret
    refine ⟨v2, rfl, ?_, ?_, ?_⟩
    · have := hl2
      rw [Nat.zero_add, List.nil_append] at this
      exact this
    · intro b hb
      refine ⟨?_, ?_⟩
      · have hb3 : v2.ownBlock = some w.heap.size ∨ ∃ k, v2.ownBlock = some k ∧ (w.alloc (.cells #[] 41)).heap.size ≤ k := hb2
        rcases hb3 with g2 | ⟨k, g2, g3⟩
        · rw [g2] at hb
          injection hb with hb
          exact Nat.le_of_eq hb
        · rw [g2] at hb
          injection hb with hb
          simp at g3
          omega
      · obtain ⟨g, q1, q2⟩ := SlV.lt hl2 (by omega)
        have hb' : v2.ownBlock = some b := hb
        rw [q1] at hb'
        injection hb' with hb'
        omega
    · refine Mod.below HB.out hm2 (by simp) fun i _ hi => ?_
      injection hi with hi
      exact Nat.le_of_eq hi
end Go.Proofs.YtdmoohiepnbdaaaGreat.Cl
namespace Go.Proofs.YtdmoohiepnbdaaaGreat
open Go.RowKit
set_option linter.unusedVariables false
set_option linter.unusedSimpArgs false
namespace Ca
def hardOk (hp : Int) (xs : List Int) : Bool := decide (hp ≤ 4096) && decide (xs.length ≤ 16) && xs.all (fun x => decide (x ≤ 1024))
def hardE (hp : Int) (xs : List Int) : Int := if hardOk hp xs = true then 0 else 2
theorem hardE_no {hp : Int} {xs : List Int} (h : hardOk hp xs = false) : hardE hp xs = 2 := by unfold hardE; rw [h]; rfl
theorem hardE_yes {hp : Int} {xs : List Int} (h : hardOk hp xs = true) : hardE hp xs = 0 := by unfold hardE; rw [h]; rfl
def ckRel (w : World) (xs : List Int) (vi : Value) (wr : World) : Prop := ∃ i : Nat, i ≤ xs.length ∧ vi = .int .i64 i ∧ (∀ (k : Nat) (x : Int), k < i → xs[k]? = some x → x ≤ 1024) ∧ Below w.heap.size w wr
theorem words_below {w w' : World} {a : Option Addr} {xs : List Int} (h : Rs.Words w a xs) (hb : Below w.heap.size w w') : Rs.Words w' a xs := by
  refine ⟨fun i hi => ?_, h.len⟩
  obtain ⟨g, o, e, hc⟩ := h.cell i hi
  have hl : g < w.heap.size := by
    unfold World.cell? at hc
    cases hg : w.heap[g]? with
    | none => rw [hg] at hc; cases hc
    | some _ => exact lt_of_block hg
  exact ⟨g, o, e, (World.cell?_of_block (w := w) (hb.block _ hl)).trans hc⟩
theorem words_at {w : World} {a : Option Addr} {xs : List Int} (h : Rs.Words w a xs) : Cl.At w a (xs.map (Value.int .u32)) := fun j u hu => by
  have hj : j < xs.length := by have := (List.getElem?_eq_some_iff.1 hu).1; simpa using this
  obtain ⟨g, o, e, hc⟩ := h.cell j hj
  refine ⟨g, o, e, hc.trans ?_⟩
  rw [← hu, List.getElem?_map, List.getElem?_eq_getElem hj]
  rfl
set_option maxRecDepth 100000 in
set_option maxHeartbeats 4000000 in
theorem check {w : World} {a : Option Addr} {cap : Nat} {hp : Int} {xs : List Int} (h : Rs.Words w a xs) (hb0 : ∀ x, x ∈ xs → 0 ≤ x ∧ x ≤ 4294967295) (p0 : 0 ≤ hp) :
    Calls Tryz.prog 211 #[.agg #[.int .u32 hp, .slice a xs.length cap]] w fun e w' => e = .returned (.int .i64 (hardE hp xs)) ∧ Below w.heap.size w w' := by
  have hl := h.len
  have HW := Lib.hid fun V (hV : Below w.heap.size w V) => words_below h hV
  have hb : Below w.heap.size w (w.alloc (.cells #[.int .u32 hp, .slice a xs.length cap] 59)) := (Below.refl _ _).alloc (Nat.le_refl _) _
  have HB := Lib.hid hb
  clear hb h
  by_cases h1 : 4096 < hp
  · have HE : Hid (hardOk hp xs = false) := Lib.hid (by unfold hardOk; rw [decide_eq_false (by omega)]; rfl)
    go_enter Tryz.func211, Tryz.ntmps211
    go_wp2
    go_ret
    exact ⟨by rw [hardE_no HE.out]; rfl, HB.out⟩
  by_cases h2 : 16 < xs.length
  · have HE : Hid (hardOk hp xs = false) := Lib.hid (by unfold hardOk; rw [decide_eq_false (show ¬ xs.length ≤ 16 by omega)]; simp)
    go_enter Tryz.func211, Tryz.ntmps211
    go_wp2
    go_ret
    exact ⟨by rw [hardE_no HE.out]; rfl, HB.out⟩
  have HA : Hid (hardOk hp xs = xs.all (fun x => decide (x ≤ 1024))) := Lib.hid (by unfold hardOk; rw [decide_eq_true (by omega), decide_eq_true (by omega)]; simp)
  go_enter Tryz.func211, Tryz.ntmps211
  go_wp2
  go_loopw [4, 17] (fun _ vi wr => ckRel w xs vi wr) (fun _ vi _ => xs.length - (intOf vi).toNat)
  case atStart => exact ⟨0, by omega, by go_num, fun k x hk => absurd hk (Nat.not_lt_zero _), HB.out⟩
  case round =>
    obtain ⟨i, hi, rfl, hno, hbw⟩ := hrel
    have HNo := Lib.hid hno
    have HB1 := Lib.hid hbw
    clear hno
    by_cases hin : i < xs.length
    · obtain ⟨g, off, rfl, hc⟩ := (HW.out wr hbw).cell i hin
      have HX : Hid (xs[i]? = some xs[i]) := Lib.hid (List.getElem?_eq_getElem hin)
      generalize xs[i] = x at *
      clear hbw
      by_cases hx : 1024 < x
      · have HE : Hid (xs.all (fun x => decide (x ≤ 1024)) = false) := Lib.hid (by
          rw [List.all_eq_false]
          exact ⟨x, List.mem_of_getElem? HX.out, by simp; omega⟩)
        go_wp2
        go_ret
        exact ⟨by rw [hardE_no (HA.out.trans HE.out)]; rfl, HB1.out⟩
      · go_wp2
        refine ⟨⟨i + 1, by omega, by go_num, fun k y hk hy => ?_, HB1.out⟩, by simp [intOf]; omega⟩
        rcases Nat.lt_or_ge k i with q | q
        · exact HNo.out k y q hy
        · obtain rfl : k = i := by omega
          rw [HX.out] at hy
          cases hy
          omega
    · have HE : Hid (xs.all (fun x => decide (x ≤ 1024)) = true) := Lib.hid (by
        rw [List.all_eq_true]
        intro x hx
        obtain ⟨k, hk⟩ := List.getElem?_of_mem hx
        exact decide_eq_true (HNo.out k x (by have := (List.getElem?_eq_some_iff.1 hk).1; omega) hk))
      clear hbw
      go_wp2
      go_ret
      exact ⟨by rw [hardE_yes (HA.out.trans HE.out)]; rfl, HB1.out⟩
def NewPost (w : World) (hp : Int) (xs : List Int) (e : Ending) (w' : World) : Prop :=
  ∃ cb mb hv, e = .returned (.tuple #[.pointer (some ⟨cb, 0, none⟩), .int .i64 0]) ∧ Cps w' ⟨cb, mb, hv, cb, .slice none 0 0, .slice none 0 0⟩ hp none ∧ SlV w' 41 1 hv xs.length (xs.map (Value.int .u32)) ∧ (∀ b, hv.ownBlock = some b → w.heap.size ≤ b ∧ b < w'.heap.size ∧ b ≠ cb ∧ b ≠ mb) ∧ w.heap.size ≤ mb ∧ w.heap.size ≤ cb ∧ Below w.heap.size w w'
theorem u32_one (xs : List Int) : ∀ u, u ∈ xs.map (Value.int .u32) → u.oneCell' = true := fun u hu => by
  obtain ⟨x, _, rfl⟩ := List.mem_map.1 hu
  rfl
set_option maxRecDepth 100000 in
set_option maxHeartbeats 4000000 in
theorem new {w : World} {a : Option Addr} {cap : Nat} {hp : Int} {xs : List Int} (h : Rs.Words w a xs) (hb0 : ∀ x, x ∈ xs → 0 ≤ x ∧ x ≤ 4294967295) (p0 : 0 ≤ hp) (hk : hardOk hp xs = true) :
    Calls Tryz.prog 154 #[.agg #[.int .u32 hp, .slice a xs.length cap]] w (NewPost w hp xs) := by
  have hmm := @run_makeMap Tryz.prog
  have hln : xs.length ≤ 16 := by
    unfold hardOk at hk
    simp at hk
    omega
  have hb : Below w.heap.size w (w.alloc (.cells #[.int .u32 hp, .slice a xs.length cap] 59)) := (Below.refl _ _).alloc (Nat.le_refl _) _
  have hblk := heap_alloc_new w (.cells #[.int .u32 hp, .slice a xs.length cap] 59)
  have hch := check (cap := cap) (words_below h hb) hb0 p0
  rw [hardE_yes hk] at hch
  have HCh := Lib.hid hch
  have HW := Lib.hid fun V (hV : Below w.heap.size w V) => Cl.clone_u32 (cap := cap) (n := xs.length) (by simp) (words_at (words_below h hV)) (by omega) (u32_one xs)
  have HFin : Hid (∀ V hv, Below w.heap.size w V → w.heap.size < V.heap.size → SlV V 41 1 hv xs.length (xs.map (Value.int .u32)) → (∀ b, hv.ownBlock = some b → w.heap.size < b ∧ b < V.heap.size) → NewPost w hp xs (.returned (.tuple #[.pointer (some ⟨V.heap.size + 1, 0, none⟩), .int .i64 0])) (((V.setCell ⟨w.heap.size, 1, none⟩ hv).alloc (.map #[] 0)).alloc (.cells #[.int .u32 hp, hv, .map (some V.heap.size)] 298))) := Lib.hid fun V hv hV hlt hsl ho => by
    have hm1 : Mod (fun i => i = w.heap.size) V (V.setCell ⟨w.heap.size, 1, none⟩ hv) := Mod.setCell (F := fun i => i = w.heap.size) (Mod.refl _ _) ⟨w.heap.size, 1, none⟩ (.inl rfl) _
    have hb1 := Mod.below hV hm1 hV.size fun i _ e => Nat.le_of_eq e.symm
    have hs1 : (V.setCell ⟨w.heap.size, 1, none⟩ hv).heap.size = V.heap.size := by simp [World.setCell]
    have hsl1 := hsl.mod hm1 fun k hk e => by have := ho k hk; omega
    generalize V.setCell ⟨w.heap.size, 1, none⟩ hv = V1 at *
    have hown := World.ownsMap_made V1 Tryz.prog 3 ptrElem
    have hb2 : Below V1.heap.size V1 (V1.alloc (.map #[] 0)) := (Below.refl _ _).alloc (Nat.le_refl _) _
    have hs2 : (V1.alloc (.map #[] 0)).heap.size = V.heap.size + 1 := by simp [hs1]
    have hsl2 := hsl1.below hb2
    rw [hs1] at hown
    generalize V1.alloc (.map #[] 0) = V2 at *
    have hnew := heap_alloc_new V2 (.cells #[.int .u32 hp, hv, .map (some V.heap.size)] 298)
    have hb3 : Below V2.heap.size V2 (V2.alloc (.cells #[.int .u32 hp, hv, .map (some V.heap.size)] 298)) := (Below.refl _ _).alloc (Nat.le_refl _) _
    have hz3 : (V2.alloc (.cells #[.int .u32 hp, hv, .map (some V.heap.size)] 298)).heap.size = V.heap.size + 2 := by simp [hs2]
    rw [hs2] at hnew
    exact ⟨V.heap.size + 1, V.heap.size, hv, rfl, ⟨hnew, ⟨_, _, hown.alloc _, fun x zd => by rw [if_neg (by simp)]; rfl, rfl⟩, fun G hG => (by cases hG), fun G hG => (by cases hG), by rw [hz3]; show V.heap.size + 1 < _; omega⟩, hsl2.below hb3, fun b hb => by have := ho b hb; exact ⟨by omega, by omega, by omega, by omega⟩, by omega, by omega, below_th (below_th hb1 hb2) hb3⟩
  generalize NewPost w hp xs = PQ at *
  have HB := Lib.hid hb
  have HBlk := Lib.hid hblk
  clear hch hb h hk hblk
  go_enter Tryz.func154, Tryz.ntmps154
  go_wp2_with fail
  refine HCh.out.mono ?_
  rintro e w2 ⟨rfl, hb2⟩
  have hB2 := below_th HB.out hb2
  have hbk2 := (hb2.block _ (lt_of_block HBlk.out)).trans HBlk.out
  obtain ⟨c0, c1, cf⟩ := two_of hbk2
  have HB2 := Lib.hid hB2
  have HBk2 := Lib.hid hbk2
  clear hb2 hB2 hbk2 HCh
  go_wp2_with fail
  refine (HW.out _ HB2.out).mono ?_
  rintro e w3 ⟨hv, rfl, hsl, ho, hb3⟩
  obtain ⟨oa, oc, rfl⟩ := hsl.form
  have hbk3 := (hb3.block _ (lt_of_block HBk2.out)).trans HBk2.out
  obtain ⟨c0, c1, cf⟩ := two_of hbk3
  have HF3 := Lib.hid (HFin.out w3 _ (below_th HB2.out hb3) (by have := lt_of_block hbk3; omega) hsl (fun b hb => by have := ho b hb; have := lt_of_block HBk2.out; omega))
  clear ho hsl hb3 hbk3 HW HFin
  go_wp2
  exact HF3.out
end Ca
end Go.Proofs.YtdmoohiepnbdaaaGreat
namespace Go.Proofs.YtdmoohiepnbdaaaGreat
open Go.RowKit
set_option linter.unusedVariables false
set_option linter.unusedSimpArgs false
namespace Gp
def checkE (m : Mn) : Int := if mayM m = true then 0 else 2
end Gp
theorem man_cells {w : World} {b : Nat} {m : Mn} {ev pv : Value} (h : w.heap[b]? = some (.cells (m.cells ev pv) 45 (0, 0))) : w.cell? ⟨b, 0, none⟩ = some (.int .u32 m.pages) ∧ w.cell? ⟨b, 1, none⟩ = some ev ∧ w.cell? ⟨b, 2, none⟩ = some pv ∧ w.cell? ⟨b, 3, none⟩ = some (.bool m.con) ∧ ∀ i, w.frozen? ⟨b, i, none⟩ = false := by
  refine ⟨?_, ?_, ?_, ?_, fun i => ?_⟩
  · unfold World.cell?; rw [h]; rfl
  · unfold World.cell?; rw [h]; rfl
  · unfold World.cell?; rw [h]; rfl
  · unfold World.cell?; rw [h]; rfl
  · unfold World.frozen?; rw [h]; simp
namespace Dm
theorem may_eq (m : Mn) {b1 b2 b3 b4 : Bool} (h1 : m.ext.any Gp.badX = b1) (h2 : Gp.risesB (fun a b : Int × Int => decide (a.1 < b.1)) m.ext = b2) (h3 : Gp.risesB (fun a b : Int => decide (a < b)) m.ports = b3) (h4 : decide ((0 : Int) ∈ m.ports) = b4) : Gp.checkE m = if (!b1 && b2 && b3 && !b4 && decide (m.ports.length ≤ 16) && decide (m.pages ≤ 1024)) = true then 0 else 2 := by
  unfold Gp.checkE Gp.mayM
  rw [h1, h2, h3, h4]
set_option maxRecDepth 100000 in
set_option maxHeartbeats 4000000 in
theorem check {w : World} {m : Mn} {ev pv : Value} (h : MnAt w ev pv m) : Calls Tryz.prog 159 #[.agg (m.cells ev pv)] w fun e w' => e = .returned (.int .i64 (Gp.checkE m)) ∧ Below w.heap.size w w' := by
  have hb : Below w.heap.size w (w.alloc (.cells (m.cells ev pv) 45)) := (Below.refl _ _).alloc (Nat.le_refl _) _
  have hblk := heap_alloc_new w (.cells (m.cells ev pv) 45)
  obtain ⟨pa, pc, hpv⟩ := h.p.form
  have hlen : m.ports.length ≤ 9223372036854775807 := by have := slv_len h.p; unfold maxLen at this; omega
  have H1 := Lib.hid (anyBad (h.e.below hb))
  have H2 := Lib.hid fun V (hV : Below w.heap.size w V) => risesX (h.e.below hV)
  have H3 := Lib.hid fun V (hV : Below w.heap.size w V) => rises16 (h.p.below hV)
  have H4 := Lib.hid fun V (hV : Below w.heap.size w V) => Ca.contains (h.p.below hV) 0
  rw [hpv] at H3 H4
  obtain ⟨b1, e1⟩ : ∃ b, m.ext.any Gp.badX = b := ⟨_, rfl⟩
  obtain ⟨b2, e2⟩ : ∃ b, Gp.risesB (fun a b : Int × Int => decide (a.1 < b.1)) m.ext = b := ⟨_, rfl⟩
  obtain ⟨b3, e3⟩ : ∃ b, Gp.risesB (fun a b : Int => decide (a < b)) m.ports = b := ⟨_, rfl⟩
  obtain ⟨b4, e4⟩ : ∃ b, decide ((0 : Int) ∈ m.ports) = b := ⟨_, rfl⟩
  have HM := Lib.hid (may_eq m e1 e2 e3 e4)
  rw [e1] at H1
  rw [e2] at H2
  rw [e3] at H3
  rw [e4] at H4
  have HB := Lib.hid hb
  have HBlk := Lib.hid hblk
  unfold Mn.cells at *
  rw [hpv] at HB HBlk H1 ⊢
  have HC := Lib.hid fun V (hV : Below (w.alloc (.cells #[.int .u32 m.pages, ev, .slice pa m.ports.length pc, .bool m.con] 45)).heap.size (w.alloc (.cells #[.int .u32 m.pages, ev, .slice pa m.ports.length pc, .bool m.con] 45)) V) => man_cells (m := m) ((hV.block _ (lt_of_block HBlk.out)).trans HBlk.out)
  clear e1 e2 e3 e4 hb hblk hpv h
  obtain ⟨n, hn⟩ : ∃ n, m.ports.length = n := ⟨_, rfl⟩
  obtain ⟨p, hp⟩ : ∃ p, m.pages = p := ⟨_, rfl⟩
  rw [hn] at HM HB HBlk H1 H3 H4 HC hlen ⊢
  rw [hp] at HM HB HBlk H1 HC ⊢
  clear hn hp
  go_enter Tryz.func159, Tryz.ntmps159
  go_wp2_with fail
  refine H1.out.mono ?_
  rintro e w1 ⟨rfl, hb1⟩
  have HB1 := Lib.hid (below_th HB.out hb1)
  obtain ⟨c0, c1, c2, c3, _⟩ := HC.out _ hb1
  cases b1 with
  | true =>
    have HE : Hid (Gp.checkE m = 2) := Lib.hid (by rw [HM.out]; rfl)
    clear hb1
    go_wp2
    go_ret
    exact ⟨by rw [HE.out]; rfl, HB1.out⟩
  | false =>
    have Hb1 := Lib.hid hb1
    clear hb1
    go_wp2_with fail
    refine (H2.out _ HB1.out).mono ?_
    rintro e w2 ⟨rfl, hb2⟩
    have HB2 := Lib.hid (below_th HB1.out hb2)
    obtain ⟨c0, c1, c2, c3, _⟩ := HC.out _ (below_th Hb1.out hb2)
    have Hb2 := Lib.hid (below_th Hb1.out hb2)
    clear hb2
    cases b2 with
    | false =>
      have HE : Hid (Gp.checkE m = 2) := Lib.hid (by rw [HM.out]; rfl)
      go_wp2
      go_ret
      exact ⟨by rw [HE.out]; rfl, HB2.out⟩
    | true =>
      go_wp2_with fail
      refine (H3.out _ HB2.out).mono ?_
      rintro e w3 ⟨rfl, hb3⟩
      have HB3 := Lib.hid (below_th HB2.out hb3)
      obtain ⟨c0, c1, c2, c3, _⟩ := HC.out _ (below_th Hb2.out hb3)
      clear hb3
      cases b3 with
      | false =>
        have HE : Hid (Gp.checkE m = 2) := Lib.hid (by rw [HM.out]; rfl)
        go_wp2
        go_ret
        exact ⟨by rw [HE.out]; rfl, HB3.out⟩
      | true =>
        go_wp2_with fail
        refine (H4.out _ HB3.out).mono ?_
        rintro e w4 ⟨rfl, rfl⟩
        cases b4 with
        | true =>
          have HE : Hid (Gp.checkE m = 2) := Lib.hid (by rw [HM.out]; rfl)
          go_wp2
          go_ret
          exact ⟨by rw [HE.out]; rfl, HB3.out⟩
        | false =>
          by_cases q1 : n ≤ 16
          · by_cases q2 : p ≤ 1024
            · have HE : Hid (Gp.checkE m = 0) := Lib.hid (by rw [HM.out, decide_eq_true q1, decide_eq_true q2]; rfl)
              go_wp2
              go_ret
              exact ⟨by rw [HE.out]; rfl, HB3.out⟩
            · have HE : Hid (Gp.checkE m = 2) := Lib.hid (by rw [HM.out, decide_eq_true q1, decide_eq_false q2]; rfl)
              go_wp2
              go_ret
              exact ⟨by rw [HE.out]; rfl, HB3.out⟩
          · have HE : Hid (Gp.checkE m = 2) := Lib.hid (by rw [HM.out, decide_eq_false q1]; simp)
            go_wp2
            go_ret
            exact ⟨by rw [HE.out]; rfl, HB3.out⟩
end Dm
def firstE (l : List Int) : Int := (l.find? fun x => x != 0).getD 0
namespace Ca
section
variable {w : World} {a : CAt} {hp : Int} {g : Option Gr}
set_option maxRecDepth 100000 in
set_option maxHeartbeats 8000000 in
theorem each {m : Mn} {ev pv : Value} {lb pb : Nat} (r0 r1 r2 r3 : Int)
    (hf : w.heap[lb]? = some (.cells #[.func (.func 221) #[] #[], .func (.func 222) #[] #[], .func (.func 223) #[] #[], .func (.func 160) #[] #[.pointer (some ⟨pb, 0, none⟩)]] 385 (0, 0)))
    (h0 : ∀ V, Below w.heap.size w V → Calls Tryz.prog 221 #[.pointer (some ⟨a.cb, 0, none⟩), .agg (m.cells ev pv)] V fun e w' => e = .returned (.int .i64 r0) ∧ Below V.heap.size V w')
    (h1 : ∀ V, Below w.heap.size w V → Calls Tryz.prog 222 #[.pointer (some ⟨a.cb, 0, none⟩), .agg (m.cells ev pv)] V fun e w' => e = .returned (.int .i64 r1) ∧ Below V.heap.size V w')
    (h2 : ∀ V, Below w.heap.size w V → Calls Tryz.prog 223 #[.pointer (some ⟨a.cb, 0, none⟩), .agg (m.cells ev pv)] V fun e w' => e = .returned (.int .i64 r2) ∧ Below V.heap.size V w')
    (h3 : ∀ V, Below w.heap.size w V → Calls Tryz.prog 160 #[.pointer (some ⟨a.cb, 0, none⟩), .agg (m.cells ev pv), .pointer (some ⟨pb, 0, none⟩)] V fun e w' => e = .returned (.int .i64 r3) ∧ Below V.heap.size V w') :
    Calls Tryz.prog 220 #[.pointer (some ⟨a.cb, 0, none⟩), .agg (m.cells ev pv), .slice (some ⟨lb, 0, none⟩) 4 4] w fun e w' => e = .returned (.int .i64 (firstE [r0, r1, r2, r3])) ∧ Below w.heap.size w w' := by
  have hb : Below w.heap.size w (w.alloc (.cells (m.cells ev pv) 45)) := (Below.refl _ _).alloc (Nat.le_refl _) _
  have hblk := heap_alloc_new w (.cells (m.cells ev pv) 45)
  have HC := Lib.hid fun V (hV : Below (w.alloc (.cells (m.cells ev pv) 45)).heap.size (w.alloc (.cells (m.cells ev pv) 45)) V) => man_cells (m := m) ((hV.block _ (lt_of_block hblk)).trans hblk)
  have HF : Hid (∀ V, Below w.heap.size w V → V.cell? ⟨lb, 0, none⟩ = some (.func (.func 221) #[] #[]) ∧ V.cell? ⟨lb, 1, none⟩ = some (.func (.func 222) #[] #[]) ∧ V.cell? ⟨lb, 2, none⟩ = some (.func (.func 223) #[] #[]) ∧ V.cell? ⟨lb, 3, none⟩ = some (.func (.func 160) #[] #[.pointer (some ⟨pb, 0, none⟩)])) := Lib.hid fun V hV => by
    have hk := (hV.block _ (lt_of_block hf)).trans hf
    refine ⟨?_, ?_, ?_, ?_⟩ <;> (unfold World.cell?; rw [hk]; rfl)
  have H0 := Lib.hid h0
  have H1 := Lib.hid h1
  have H2 := Lib.hid h2
  have H3 := Lib.hid h3
  have HB0 := Lib.hid hb
  have HG0 := Lib.hid (Below.refl (w.alloc (.cells (m.cells ev pv) 45)).heap.size (w.alloc (.cells (m.cells ev pv) 45)))
  unfold Mn.cells at *
  obtain ⟨c0, c1, c2, c3, _⟩ := HC.out _ HG0.out
  obtain ⟨f0, f1, f2, f3⟩ := HF.out _ HB0.out
  clear h0 h1 h2 h3 hb hblk hf
  go_enter Tryz.func220, Tryz.ntmps220
  go_wp2
  refine wp_loop_rounds 5 ?_
  -- round 0
  rw [rounds_succ]
  go_wp2_with fail
  refine (H0.out _ HB0.out).mono ?_
  rintro e w1 ⟨rfl, hb1⟩
  have HB1 := Lib.hid (below_th HB0.out hb1)
  have HG1 := Lib.hid (below_th HG0.out hb1)
  clear hb1
  try clear c0
  try clear c1
  try clear c2
  try clear c3
  try clear f0
  try clear f1
  try clear f2
  try clear f3
  obtain ⟨c0, c1, c2, c3, _⟩ := HC.out _ HG1.out
  obtain ⟨f0, f1, f2, f3⟩ := HF.out _ HB1.out
  by_cases q0 : r0 = 0
  case neg =>
    have hne : (r0 != 0) = true := bne_iff_ne.2 q0
    have HV : Hid (firstE [r0, r1, r2, r3] = r0) := Lib.hid (by unfold firstE; simp only [List.find?_cons, hne]; rfl)
    go_wp2
    go_ret
    exact ⟨by rw [HV.out]; rfl, HB1.out⟩
  have e0 : (r0 != 0) = false := by rw [q0]; rfl
  clear q0
  go_wp2
  -- round 1
  rw [rounds_succ]
  go_wp2_with fail
  refine (H1.out _ HB1.out).mono ?_
  rintro e w2 ⟨rfl, hb2⟩
  have HB2 := Lib.hid (below_th HB1.out hb2)
  have HG2 := Lib.hid (below_th HG1.out hb2)
  clear hb2
  try clear c0
  try clear c1
  try clear c2
  try clear c3
  try clear f0
  try clear f1
  try clear f2
  try clear f3
  obtain ⟨c0, c1, c2, c3, _⟩ := HC.out _ HG2.out
  obtain ⟨f0, f1, f2, f3⟩ := HF.out _ HB2.out
  by_cases q1 : r1 = 0
  case neg =>
    have hne : (r1 != 0) = true := bne_iff_ne.2 q1
    have HV : Hid (firstE [r0, r1, r2, r3] = r1) := Lib.hid (by unfold firstE; simp only [List.find?_cons, e0, hne]; rfl)
    go_wp2
    go_ret
    exact ⟨by rw [HV.out]; rfl, HB2.out⟩
  have e1 : (r1 != 0) = false := by rw [q1]; rfl
  clear q1
  go_wp2
  -- round 2
  rw [rounds_succ]
  go_wp2_with fail
  refine (H2.out _ HB2.out).mono ?_
  rintro e w3 ⟨rfl, hb3⟩
  have HB3 := Lib.hid (below_th HB2.out hb3)
  have HG3 := Lib.hid (below_th HG2.out hb3)
  clear hb3
  try clear c0
  try clear c1
  try clear c2
  try clear c3
  try clear f0
  try clear f1
  try clear f2
  try clear f3
  obtain ⟨c0, c1, c2, c3, _⟩ := HC.out _ HG3.out
  obtain ⟨f0, f1, f2, f3⟩ := HF.out _ HB3.out
  by_cases q2 : r2 = 0
  case neg =>
    have hne : (r2 != 0) = true := bne_iff_ne.2 q2
    have HV : Hid (firstE [r0, r1, r2, r3] = r2) := Lib.hid (by unfold firstE; simp only [List.find?_cons, e0, e1, hne]; rfl)
    go_wp2
    go_ret
    exact ⟨by rw [HV.out]; rfl, HB3.out⟩
  have e2 : (r2 != 0) = false := by rw [q2]; rfl
  clear q2
  go_wp2
  -- round 3
  rw [rounds_succ]
  go_wp2_with fail
  refine (H3.out _ HB3.out).mono ?_
  rintro e w4 ⟨rfl, hb4⟩
  have HB4 := Lib.hid (below_th HB3.out hb4)
  have HG4 := Lib.hid (below_th HG3.out hb4)
  clear hb4
  try clear c0
  try clear c1
  try clear c2
  try clear c3
  try clear f0
  try clear f1
  try clear f2
  try clear f3
  obtain ⟨c0, c1, c2, c3, _⟩ := HC.out _ HG4.out
  obtain ⟨f0, f1, f2, f3⟩ := HF.out _ HB4.out
  by_cases q3 : r3 = 0
  case neg =>
    have hne : (r3 != 0) = true := bne_iff_ne.2 q3
    have HV : Hid (firstE [r0, r1, r2, r3] = r3) := Lib.hid (by unfold firstE; simp only [List.find?_cons, e0, e1, e2, hne]; rfl)
    go_wp2
    go_ret
    exact ⟨by rw [HV.out]; rfl, HB4.out⟩
  have e3 : (r3 != 0) = false := by rw [q3]; rfl
  clear q3
  have HV : Hid (firstE [r0, r1, r2, r3] = 0) := Lib.hid (by unfold firstE; simp only [List.find?_cons, List.find?_nil, e0, e1, e2, e3]; rfl)
  go_wp2
  rw [rounds_succ]
  go_wp2
  go_ret
  exact ⟨by rw [HV.out]; rfl, HB4.out⟩
end
end Ca
end Go.Proofs.YtdmoohiepnbdaaaGreat
namespace Go.Proofs.YtdmoohiepnbdaaaGreat
open Go.RowKit
section
variable {P : Program} {Q : Exit → Act → World → Prop} {md : Region.Mode} {S : World → Prop} {last : Nat}
theorem L_take {l : List Oper} {i : Nat} {oi : Oper} {v : Value} {fuel : Nat} {listed : Array Bool} {a : Act} {w : World} (hi : l[i]? = some oi) (hwt : waitsFor md l.toArray last i = true)
    (hs : Region.noSelect l.toArray = true) (hf : Region.free md l.toArray listed i = true) (hr : (Region.ready md l.toArray listed).contains i = true)
    (hQ : ∀ c a w, Q (.panic c) (a.put oi.dst v) w → Q (.panic c) a w) (hy : YieldsIf P l.toArray S oi v a) (hS : S w)
    (h : AnyE P md l.toArray Q S last fuel (listed.setIfInBounds i true) (a.put oi.dst v) w) : AnyE P md l.toArray Q S last (fuel + 1) listed a w :=
  E_take (by rw [List.getElem?_toArray]; exact hi) hwt hs hf hr hQ hy hS h
theorem L_step {l : List Oper} {i : Nat} {o : Oper} {fuel : Nat} {listed : Array Bool} {a : Act} {w : World} (hr : Region.ready md l.toArray listed = [i]) (ho : l[i]? = some o)
    (h : ∀ K' : Act → World → Prop, Shut (∀ a w, (i ≠ last → S w) → ((i ≠ last → S w) → AnyE P md l.toArray Q S last fuel (listed.setIfInBounds i true) a w) → K' a w) → if Region.wanted o (yielded l.toArray a.tmps) = true then Oper.wp P o a w K' Q else K' (a.put o.dst undef) w) :
    AnyE P md l.toArray Q S last (fuel + 1) listed a w :=
  E_step hr (by rw [List.getElem?_toArray]; exact ho) h
end
end Go.Proofs.YtdmoohiepnbdaaaGreat
namespace Go.Proofs.YtdmoohiepnbdaaaGreat
open Go.RowKit
set_option linter.unusedVariables false
set_option linter.unusedSimpArgs false
theorem Cps.insert {w : World} {a : CAt} {hp : Int} (h : Cps w a hp none) {gb : Nat} {ev pv : Value} {m : Mn} (hblk : w.heap[gb]? = some (.cells (grC m 0 ev pv) 304 (0, 0))) (hm : MnAt w ev pv m) (hok : m.ok) (h1 : gb ≠ a.mb) (h2 : ev.ownBlock ≠ some a.mb) (h3 : pv.ownBlock ≠ some a.mb) (h4 : a.cb ≠ a.mb) :
    ∃ w', (Instr.mapUpdate 296 (.map (some a.mb)) (.int .i64 1) (.pointer (some ⟨gb, 0, none⟩))).run Tryz.prog w = .ok () w' ∧ Cps w' { a with gb := gb, ev := ev, pv := pv } hp (some ⟨m, 0⟩) ∧ Mod (fun k => k = a.mb) w w' := by
  obtain ⟨D, n, ho, hv, hs⟩ := h.map
  have hs : Maps.size D = 0 := hs
  have ht := own_tight ho
  have K := Maps.int_keyed (P := Tryz.prog) Tryz.underlying3
  have hk := Maps.keyOf_int_mk (P := Tryz.prog) Tryz.underlying3 (by decide : (Lit.int .i64 1).wf = true)
  obtain ⟨w', hrun, how, htu⟩ := ht.store K Tryz.underlying296 (by rw [hs]; unfold maxLen; omega) (val := .pointer (some ⟨gb, 0, none⟩)) (d := .lit (.int .i64 gb)) (ps := []) hk rfl
  have hg := htu.grown
  have hne : ∀ k, k < w.heap.size → k ≠ a.mb → w'.heap[k]? = w.heap[k]? := fun k hk hkm => hg.block k hk (by simpa using hkm)
  have hmod : Mod (fun k => k = a.mb) w w' := ⟨hg.os, hg.tape, hg.output, hg.size, fun k hk hkm => hne k hk hkm⟩
  refine ⟨w', hrun, ⟨?_, ?_, ?_, ?_, ?_⟩, hmod⟩
  · exact (hne a.cb (h.lt (.inl rfl)) h4).trans h.head
  · refine ⟨_, _, how, fun x zd => ?_, ?_⟩
    · by_cases e : x = 1
      · subst e
        rw [if_pos ⟨rfl, rfl⟩, Maps.atKey_put_same ht.isMap (K.key hk)]
      · rw [if_neg (fun q => e q.1), Maps.atKey_put_other (by intro g; simp at g; exact e g), hv, if_neg (fun q => e q.1)]
    · rw [Maps.size_put (ht.tidy K), hs]
      have : Maps.has D (.int .i64 1) = false := Maps.has_false_of_atKey fun z => by rw [hv, if_neg (by simp)]
      rw [this]
      rfl
  · intro G hG
    cases hG
    exact ⟨(hne gb (lt_of_block hblk) h1).trans hblk, hm.mod hmod (fun k hk e => h2 (e ▸ hk)) fun k hk e => h3 (e ▸ hk)⟩
  · intro G hG
    cases hG
    exact ⟨hok, Int.le_refl 0, hok.p0⟩
  · exact Nat.lt_of_lt_of_le (lt_of_block hblk) hg.size
namespace Ca
set_option maxRecDepth 100000 in
set_option maxHeartbeats 8000000 in
theorem all {w : World} {a : CAt} {m : Mn} {ev pv : Value} {pb : Nat} (r0 r1 r2 r3 : Int)
    (h0 : ∀ V, Below w.heap.size w V → Calls Tryz.prog 221 #[.pointer (some ⟨a.cb, 0, none⟩), .agg (m.cells ev pv)] V fun e w' => e = .returned (.int .i64 r0) ∧ Below V.heap.size V w')
    (h1 : ∀ V, Below w.heap.size w V → Calls Tryz.prog 222 #[.pointer (some ⟨a.cb, 0, none⟩), .agg (m.cells ev pv)] V fun e w' => e = .returned (.int .i64 r1) ∧ Below V.heap.size V w')
    (h2 : ∀ V, Below w.heap.size w V → Calls Tryz.prog 223 #[.pointer (some ⟨a.cb, 0, none⟩), .agg (m.cells ev pv)] V fun e w' => e = .returned (.int .i64 r2) ∧ Below V.heap.size V w')
    (h3 : ∀ V, Below w.heap.size w V → Calls Tryz.prog 160 #[.pointer (some ⟨a.cb, 0, none⟩), .agg (m.cells ev pv), .pointer (some ⟨pb, 0, none⟩)] V fun e w' => e = .returned (.int .i64 r3) ∧ Below V.heap.size V w') :
    Calls Tryz.prog 161 #[.pointer (some ⟨a.cb, 0, none⟩), .agg (m.cells ev pv), .func (.func 160) #[] #[.pointer (some ⟨pb, 0, none⟩)]] w fun e w' => e = .returned (.int .i64 (firstE [r0, r1, r2, r3])) ∧ Below w.heap.size w w' := by
  have HE := Lib.hid fun (V : World) (lb : Nat) hb hf => each (w := V) (a := a) (m := m) (ev := ev) (pv := pv) (lb := lb) (pb := pb) r0 r1 r2 r3 hf (fun U hU => h0 U (below_th hb hU)) (fun U hU => h1 U (below_th hb hU)) (fun U hU => h2 U (below_th hb hU)) (fun U hU => h3 U (below_th hb hU))
  have hb : Below w.heap.size w (w.alloc (.cells (m.cells ev pv) 45)) := (Below.refl _ _).alloc (Nat.le_refl _) _
  have hblk := heap_alloc_new w (.cells (m.cells ev pv) 45)
  obtain ⟨c0, c1, c2, c3, _⟩ := man_cells hblk
  have HB := Lib.hid hb
  unfold Mn.cells at *
  clear hb hblk h0 h1 h2 h3
  go_enter Tryz.func161, Tryz.ntmps161
  go_wp2_with fail
  refine (HE.out _ _ (HB.out.alloc HB.out.size _) (by
    have h := heap_alloc_new (w.alloc (.cells #[.int .u32 m.pages, ev, pv, .bool m.con] 45)) (.cells #[.func (.func 221) #[] #[], .func (.func 222) #[] #[], .func (.func 223) #[] #[], .func (.func 160) #[] #[.pointer (some ⟨pb, 0, none⟩)]] 385)
    rw [show (w.alloc (.cells #[.int .u32 m.pages, ev, pv, .bool m.con] 45)).heap.size = w.heap.size + 1 by simp] at h
    exact h)).mono ?_
  rintro e w2 ⟨rfl, hb2⟩
  have HB2 := Lib.hid (below_th (HB.out.alloc HB.out.size _) hb2)
  clear c0 c1 c2 c3 hb2
  go_wp2
  go_ret
  exact ⟨rfl, HB2.out⟩
end Ca
end Go.Proofs.YtdmoohiepnbdaaaGreat
namespace Go.Proofs.YtdmoohiepnbdaaaGreat
open Go.RowKit
set_option linter.unusedVariables false
set_option linter.unusedSimpArgs false
theorem KStep.grant {w w' : World} {a : KAt} {K : Kn} (h : Knl w a K) {m : Mn} {gb : Nat} {ev pv : Value} (hc : Cps w' { a.c with gb := gb, ev := ev, pv := pv } K.hp (some ⟨m, 0⟩)) (hm : Mod (fun k => k = a.c.mb) w w') (hg : w.heap.size ≤ gb ∧ gb < w'.heap.size) (hv : ∀ k, ev.ownBlock = some k ∨ pv.ownBlock = some k → w.heap.size ≤ k ∧ k < w'.heap.size ∧ k ≠ gb) :
    ∃ a', KStep w w' a K a' { K with g := some ⟨m, 0⟩ } := by
  have hz := hm.size
  have hmb : a.tag a.c.mb = 2 := h.t2 _ (.inr (.inl rfl))
  have ne : ∀ k, a.tag k ≠ 2 → ¬ k = a.c.mb := fun k hk e => hk (e ▸ hmb)
  obtain ⟨T, hT⟩ : ∃ T : Nat → Nat, T = fun k => if k < w.heap.size then a.tag k else if k = gb then 2 else if k < w'.heap.size then 5 else 0 := ⟨_, rfl⟩
  have To : ∀ k, k < w.heap.size → T k = a.tag k := fun k hk => by rw [hT]; exact if_pos hk
  have Ta : ∀ k, a.tag k ≠ 0 → T k = a.tag k := fun k hk => To k (h.lt k hk)
  have Tg : T gb = 2 := by
    rw [hT]
    show (if gb < w.heap.size then _ else _) = 2
    rw [if_neg (by omega), if_pos rfl]
  have Tv : ∀ k, ev.ownBlock = some k ∨ pv.ownBlock = some k → T k = 5 := fun k hk => by
    have := hv k hk
    rw [hT]
    show (if k < w.heap.size then _ else _) = 5
    rw [if_neg (by omega), if_neg (by omega), if_pos this.2.1]
  refine ⟨{ a with c := { a.c with gb := gb, ev := ev, pv := pv }, tag := T }, ?_⟩
  exact ⟨{ head := (hm.block _ (lt_of_block h.head) (ne _ (by rw [h.t1]; decide))).trans h.head
           hx := SlV.mod h.hx hm fun k hk => ne k (by rw [h.t5 k (.inl hk)]; decide)
           chx := SlV.mod h.chx hm fun k hk => ne k (by rw [h.t5 k (.inr (.inl hk))]; decide)
           caps := hc
           nic := KStep.nic_fit (h.nic.keep hm fun k (hk : a.tag k = 3) => ne k (by rw [hk]; decide)) fun k (hk : a.tag k = 3) _ => (Ta k (by rw [hk]; decide)).trans hk
           len := h.len
           outer := h.outer.mod hm fun k hk => ne k (by rw [h.t4 k hk]; decide)
           inner := fun i v l hv hl => (h.inner i v l hv hl).mod hm fun k hk => ne k (by rw [h.t6 i v k hv hk]; omega)
           ok := ⟨h.ok.n0, h.ok.n1, h.ok.bs, h.ok.q, h.ok.hl, h.ok.g0⟩
           t1 := (Ta _ (by rw [h.t1]; decide)).trans h.t1
           t2 := fun k hk => by
             rcases hk with e | e | e
             · have := h.t2 k (.inl e)
               exact (Ta k (by rw [this]; decide)).trans this
             · have := h.t2 k (.inr (.inl e))
               exact (Ta k (by rw [this]; decide)).trans this
             · have e : k = gb := e
               rw [e]; exact Tg
           t4 := fun k hk => (Ta k (by rw [h.t4 k hk]; decide)).trans (h.t4 k hk)
           t5 := fun k hk => by
             rcases hk with e | e | e
             · have := h.t5 k (.inl e)
               exact (Ta k (by rw [this]; decide)).trans this
             · have := h.t5 k (.inr (.inl e))
               exact (Ta k (by rw [this]; decide)).trans this
             · exact Tv k e
           t6 := fun i v k hv hk => (Ta k (by rw [h.t6 i v k hv hk]; omega)).trans (h.t6 i v k hv hk)
           lt := fun k hk => by
             have hk : T k ≠ 0 := hk
             rcases Nat.lt_or_ge k w.heap.size with g | g
             · omega
             · rw [hT] at hk
               have hk : (if k < w.heap.size then a.tag k else if k = gb then 2 else if k < w'.heap.size then 5 else 0) ≠ 0 := hk
               rw [if_neg (by omega)] at hk
               split at hk
               · omega
               · split at hk
                 · assumption
                 · exact absurd rfl hk }, ⟨rfl, rfl, rfl⟩, hm.mono fun i _ g => by subst g; exact ⟨by rw [hmb]; decide, by rw [hmb]; decide⟩, To⟩
end Go.Proofs.YtdmoohiepnbdaaaGreat
