/- Grant: Cl, CapN, CapF, Grant, RegL, GrantW, GrantK in one text. -/
import Derived.Test.YtkbhokmnbpnlbaaGreatSlv
import Derived.Test.YtkbhokmnbpnlbaaGreatKnM
import Derived.Lib.Hide
import Derived.Outline
import Derived.Test.YtkbhokmnbpnlbaaGreatRspE
import Derived.Laws.EntriesVeiled
import Derived.LoopN
import Derived.Test.YtkbhokmnbpnlbaaGreatReg
/- The walks of slices.Clone: a slice's cells are laid anew, wherever they lay. -/
namespace Go.Proofs.YtkbhokmnbpnlbaaGreat.Cl
open Go.RowKit
set_option linter.unusedVariables false
set_option linter.unusedSimpArgs false
/-- Where a slice's cells lie. -/
def At (w : World) (a : Option Addr) (xs : List Value) : Prop := ∀ (j : Nat) (u : Value), xs[j]? = some u → ∃ g o, a = some ⟨g, o, none⟩ ∧ w.cell? ⟨g, o + j, none⟩ = some u
theorem At.below {w w' : World} {a : Option Addr} {xs : List Value} (h : At w a xs) (hb : Below w.heap.size w w') : At w' a xs := fun j u hu => by
  obtain ⟨g, o, e, hc⟩ := h j u hu
  have hl : g < w.heap.size := by
    unfold World.cell? at hc
    cases hg : w.heap[g]? with
    | none => rw [hg] at hc; cases hc
    | some _ => exact lt_of_block hg
  exact ⟨g, o, e, (World.cell?_of_block (w := w) (hb.block _ hl)).trans hc⟩
theorem at_slv {w : World} {e : TypeId} {s n : Nat} {a : Option Addr} {cap : Nat} {xs : List Value} (h : SlV w e s (.slice a n cap) n xs) : At w a xs := fun j u hu => by
  have hj := (List.getElem?_eq_some_iff.1 hu).1
  have hl := h.1
  rcases h.2 with ⟨rfl, _⟩ | ⟨g, off, cap', cur, hv, _⟩
  · omega
  · simp only [Value.slice.injEq] at hv
    obtain ⟨rfl, _, rfl⟩ := hv
    exact ⟨g, off, rfl, (h.cell j (by omega)).trans hu⟩
set_option maxRecDepth 100000 in
theorem info_u32 : (Tryz.prog.info? 22).map (fun i => (i.zero, i.size, i.bytes)) = some (some (.int .u32 0), 1, 4) := by kernel_rfl
set_option maxRecDepth 100000 in
set_option maxHeartbeats 4000000 in
theorem clone_u32 {w : World} {a : Option Addr} {n cap : Nat} {xs : List Value} (hl : xs.length = n * 1) (hc : At w a xs) (hs : n ≤ 2000000) (h1 : ∀ u, u ∈ xs → u.oneCell' = true) :
    Calls Tryz.prog 57 #[.slice a n cap] w fun e w' => ∃ v', e = .returned v' ∧ SlV w' 22 1 v' n xs ∧ (∀ b, v'.ownBlock = some b → w.heap.size ≤ b ∧ b < w'.heap.size) ∧ Below w.heap.size w w' := by
  obtain ⟨i0, hi0, hz0, hz1, hz2⟩ := info_parts info_u32
  by_cases h0 : n = 0
  · subst h0
    obtain rfl : xs = [] := List.length_eq_zero_iff.1 (by omega)
    clear hc
    cases a with
    | none =>
      have hq := fun W => Lib.run_eql_slice_nil (P := Tryz.prog) W _ _ none 0 cap 0 0 Tryz.underlying32
      go_enter Tryz.func57, Tryz.ntmps57
      go_wp2
      first
        | (go_ret; exact ⟨_, rfl, SlV.nil _ _ _, fun b hb => (nomatch hb), Below.refl _ _⟩)
        | (refine bodyPost_ret (v := .slice none 0 0) (by simp [results, Tryz.results57, go_sem, *]) rfl ?_; exact ⟨_, rfl, SlV.nil _ _ _, fun b hb => (nomatch hb), Below.refl _ _⟩)
    | some p =>
      have hq := fun W => Lib.run_eql_slice_nil (P := Tryz.prog) W _ _ (some p) 0 cap 0 0 Tryz.underlying32
      have HB : Hid (Below w.heap.size w (w.alloc (.cells #[] 22))) := Lib.hid ((Below.refl _ _).alloc (Nat.le_refl _) _)
      have HL : Hid (SlV (w.alloc (.cells #[] 22)) 22 1 (.slice (some ⟨w.heap.size, 0, none⟩) 0 0) 0 []) := Lib.hid ⟨rfl, .inl ⟨rfl, _, rfl⟩⟩
      go_enter Tryz.func57, Tryz.ntmps57
      go_wp2
      go_ret
      exact ⟨_, rfl, HL.out, fun b hb => by injection hb with hb; exact ⟨Nat.le_of_eq hb, by rw [← hb]; simp⟩, HB.out⟩
  · obtain ⟨u, hu⟩ : ∃ u, xs[0]? = some u := ⟨_, List.getElem?_eq_getElem (by omega)⟩
    obtain ⟨g, off, rfl, _⟩ := hc 0 u hu
    have hcl : ∀ j u, xs[j]? = some u → (w.alloc (.cells #[] 22)).cell? ((⟨g, off, none⟩ : Addr).add j) = some u := fun j u hu => by
      obtain ⟨g', o', e, hcc⟩ := hc j u hu
      simp only [Option.some.injEq, Addr.mk.injEq, and_true] at e
      obtain ⟨rfl, rfl⟩ := e
      have hlt : g < w.heap.size := by
        unfold World.cell? at hcc
        cases hg : w.heap[g]? with
        | none => rw [hg] at hcc; cases hcc
        | some _ => exact lt_of_block hg
      rw [Addr.add_lit]
      exact (World.cell?_of_block (w := w) (Below.heap_alloc _ _ _ hlt)).trans hcc
    have hq := fun W => Lib.run_eql_slice_nil (P := Tryz.prog) W _ _ (some ⟨g, off, none⟩) n cap 0 0 Tryz.underlying32
    have HB : Hid (Below w.heap.size w (w.alloc (.cells #[] 22))) := Lib.hid ((Below.refl _ _).alloc (Nat.le_refl _) _)
    have HN : Hid (SlV (w.alloc (.cells #[] 22)) 22 1 (.slice (some ⟨w.heap.size, 0, none⟩) 0 0) 0 []) := Lib.hid ⟨rfl, .inl ⟨rfl, _, rfl⟩⟩
    have HC := Lib.hid hcl
    have HLn := Lib.hid hl
    have H1 := Lib.hid h1
    have hml : n ≤ maxLen := by unfold maxLen; omega
    clear hcl hc hl h1 hu
    go_enter Tryz.func57, Tryz.ntmps57
    go_wp2_with (at_builtin; refine wpList_append_slv _ rfl _ _ 32 rfl 22 i0 (.int .u32 0) 1 4 Tryz.underlying32 hi0 hz0 hz1 hz2 rfl (by decide) _ 0 [] rfl HN.out ⟨g, off, none⟩ n cap xs rfl (by omega) HLn.out HC.out H1.out (by omega) (by omega) ?_; intro v2 w2 hl2 hm2 hb2)
    go_ret
    refine ⟨v2, rfl, ?_, ?_, ?_⟩
    · have := hl2
      rw [Nat.zero_add, List.nil_append] at this
      exact this
    · intro b hb
      refine ⟨?_, ?_⟩
      · have hb3 : v2.ownBlock = some w.heap.size ∨ ∃ k, v2.ownBlock = some k ∧ (w.alloc (.cells #[] 22)).heap.size ≤ k := hb2
        rcases hb3 with g2 | ⟨k, g2, g3⟩
        · rw [g2] at hb
          injection hb with hb
          exact Nat.le_of_eq hb
        · rw [g2] at hb
          injection hb with hb
          simp at g3
          omega
      · obtain ⟨g, q1, q2⟩ := SlV.lt hl2 (by omega)
        have hb' : v2.ownBlock = some b := hb
        rw [q1] at hb'
        injection hb' with hb'
        omega
    · refine Mod.below HB.out hm2 (by simp) fun i _ hi => ?_
      injection hi with hi
      exact Nat.le_of_eq hi
set_option maxRecDepth 100000 in
theorem info_ext : (Tryz.prog.info? 203).map (fun i => (i.zero, i.size, i.bytes)) = some (some (.agg #[.int .u32 0, .int .u32 0]), 2, 8) := by kernel_rfl
set_option maxRecDepth 100000 in
set_option maxHeartbeats 4000000 in
theorem clone_ext {w : World} {a : Option Addr} {n cap : Nat} {xs : List Value} (hl : xs.length = n * 2) (hc : At w a xs) (hs : n ≤ 2000000) (h1 : ∀ u, u ∈ xs → u.oneCell' = true) :
    Calls Tryz.prog 119 #[.slice a n cap] w fun e w' => ∃ v', e = .returned v' ∧ SlV w' 203 2 v' n xs ∧ (∀ b, v'.ownBlock = some b → w.heap.size ≤ b ∧ b < w'.heap.size) ∧ Below w.heap.size w w' := by
  obtain ⟨i0, hi0, hz0, hz1, hz2⟩ := info_parts info_ext
  by_cases h0 : n = 0
  · subst h0
    obtain rfl : xs = [] := List.length_eq_zero_iff.1 (by omega)
    clear hc
    cases a with
    | none =>
      have hq := fun W => Lib.run_eql_slice_nil (P := Tryz.prog) W _ _ none 0 cap 0 0 Tryz.underlying84
      go_enter Tryz.func119, Tryz.ntmps119
      go_wp2
      first
        | (go_ret; exact ⟨_, rfl, SlV.nil _ _ _, fun b hb => (nomatch hb), Below.refl _ _⟩)
        | (refine bodyPost_ret (v := .slice none 0 0) (by simp [results, Tryz.results119, go_sem, *]) rfl ?_; exact ⟨_, rfl, SlV.nil _ _ _, fun b hb => (nomatch hb), Below.refl _ _⟩)
    | some p =>
      have hq := fun W => Lib.run_eql_slice_nil (P := Tryz.prog) W _ _ (some p) 0 cap 0 0 Tryz.underlying84
      have HB : Hid (Below w.heap.size w (w.alloc (.cells #[] 203))) := Lib.hid ((Below.refl _ _).alloc (Nat.le_refl _) _)
      have HL : Hid (SlV (w.alloc (.cells #[] 203)) 203 2 (.slice (some ⟨w.heap.size, 0, none⟩) 0 0) 0 []) := Lib.hid ⟨rfl, .inl ⟨rfl, _, rfl⟩⟩
      go_enter Tryz.func119, Tryz.ntmps119
      go_wp2
      go_ret
      exact ⟨_, rfl, HL.out, fun b hb => by injection hb with hb; exact ⟨Nat.le_of_eq hb, by rw [← hb]; simp⟩, HB.out⟩
  · obtain ⟨u, hu⟩ : ∃ u, xs[0]? = some u := ⟨_, List.getElem?_eq_getElem (by omega)⟩
    obtain ⟨g, off, rfl, _⟩ := hc 0 u hu
    have hcl : ∀ j u, xs[j]? = some u → (w.alloc (.cells #[] 203)).cell? ((⟨g, off, none⟩ : Addr).add j) = some u := fun j u hu => by
      obtain ⟨g', o', e, hcc⟩ := hc j u hu
      simp only [Option.some.injEq, Addr.mk.injEq, and_true] at e
      obtain ⟨rfl, rfl⟩ := e
      have hlt : g < w.heap.size := by
        unfold World.cell? at hcc
        cases hg : w.heap[g]? with
        | none => rw [hg] at hcc; cases hcc
        | some _ => exact lt_of_block hg
      rw [Addr.add_lit]
      exact (World.cell?_of_block (w := w) (Below.heap_alloc _ _ _ hlt)).trans hcc
    have hq := fun W => Lib.run_eql_slice_nil (P := Tryz.prog) W _ _ (some ⟨g, off, none⟩) n cap 0 0 Tryz.underlying84
    have HB : Hid (Below w.heap.size w (w.alloc (.cells #[] 203))) := Lib.hid ((Below.refl _ _).alloc (Nat.le_refl _) _)
    have HN : Hid (SlV (w.alloc (.cells #[] 203)) 203 2 (.slice (some ⟨w.heap.size, 0, none⟩) 0 0) 0 []) := Lib.hid ⟨rfl, .inl ⟨rfl, _, rfl⟩⟩
    have HC := Lib.hid hcl
    have HLn := Lib.hid hl
    have H1 := Lib.hid h1
    have hml : n ≤ maxLen := by unfold maxLen; omega
    clear hcl hc hl h1 hu
    go_enter Tryz.func119, Tryz.ntmps119
    go_wp2_with (at_builtin; refine wpList_append_slv _ rfl _ _ 84 rfl 203 i0 (.agg #[.int .u32 0, .int .u32 0]) 2 8 Tryz.underlying84 hi0 hz0 hz1 hz2 rfl (by decide) _ 0 [] rfl HN.out ⟨g, off, none⟩ n cap xs rfl (by omega) HLn.out HC.out H1.out (by omega) (by omega) ?_; intro v2 w2 hl2 hm2 hb2)
    go_ret
    refine ⟨v2, rfl, ?_, ?_, ?_⟩
    · have := hl2
      rw [Nat.zero_add, List.nil_append] at this
      exact this
    · intro b hb
      refine ⟨?_, ?_⟩
      · have hb3 : v2.ownBlock = some w.heap.size ∨ ∃ k, v2.ownBlock = some k ∧ (w.alloc (.cells #[] 203)).heap.size ≤ k := hb2
        rcases hb3 with g2 | ⟨k, g2, g3⟩
        · rw [g2] at hb
          injection hb with hb
          exact Nat.le_of_eq hb
        · rw [g2] at hb
          injection hb with hb
          simp at g3
          omega
      · obtain ⟨g, q1, q2⟩ := SlV.lt hl2 (by omega)
        have hb' : v2.ownBlock = some b := hb
        rw [q1] at hb'
        injection hb' with hb'
        omega
    · refine Mod.below HB.out hm2 (by simp) fun i _ hi => ?_
      injection hi with hi
      exact Nat.le_of_eq hi
set_option maxRecDepth 100000 in
theorem info_u16 : (Tryz.prog.info? 34).map (fun i => (i.zero, i.size, i.bytes)) = some (some (.int .u16 0), 1, 2) := by kernel_rfl
set_option maxRecDepth 100000 in
set_option maxHeartbeats 4000000 in
theorem clone_u16 {w : World} {a : Option Addr} {n cap : Nat} {xs : List Value} (hl : xs.length = n * 1) (hc : At w a xs) (hs : n ≤ 2000000) (h1 : ∀ u, u ∈ xs → u.oneCell' = true) :
    Calls Tryz.prog 120 #[.slice a n cap] w fun e w' => ∃ v', e = .returned v' ∧ SlV w' 34 1 v' n xs ∧ (∀ b, v'.ownBlock = some b → w.heap.size ≤ b ∧ b < w'.heap.size) ∧ Below w.heap.size w w' := by
  obtain ⟨i0, hi0, hz0, hz1, hz2⟩ := info_parts info_u16
  by_cases h0 : n = 0
  · subst h0
    obtain rfl : xs = [] := List.length_eq_zero_iff.1 (by omega)
    clear hc
    cases a with
    | none =>
      have hq := fun W => Lib.run_eql_slice_nil (P := Tryz.prog) W _ _ none 0 cap 0 0 Tryz.underlying85
      go_enter Tryz.func120, Tryz.ntmps120
      go_wp2
      first
        | (go_ret; exact ⟨_, rfl, SlV.nil _ _ _, fun b hb => (nomatch hb), Below.refl _ _⟩)
        | (refine bodyPost_ret (v := .slice none 0 0) (by simp [results, Tryz.results120, go_sem, *]) rfl ?_; exact ⟨_, rfl, SlV.nil _ _ _, fun b hb => (nomatch hb), Below.refl _ _⟩)
    | some p =>
      have hq := fun W => Lib.run_eql_slice_nil (P := Tryz.prog) W _ _ (some p) 0 cap 0 0 Tryz.underlying85
      have HB : Hid (Below w.heap.size w (w.alloc (.cells #[] 34))) := Lib.hid ((Below.refl _ _).alloc (Nat.le_refl _) _)
      have HL : Hid (SlV (w.alloc (.cells #[] 34)) 34 1 (.slice (some ⟨w.heap.size, 0, none⟩) 0 0) 0 []) := Lib.hid ⟨rfl, .inl ⟨rfl, _, rfl⟩⟩
      go_enter Tryz.func120, Tryz.ntmps120
      go_wp2
      go_ret
      exact ⟨_, rfl, HL.out, fun b hb => by injection hb with hb; exact ⟨Nat.le_of_eq hb, by rw [← hb]; simp⟩, HB.out⟩
  · obtain ⟨u, hu⟩ : ∃ u, xs[0]? = some u := ⟨_, List.getElem?_eq_getElem (by omega)⟩
    obtain ⟨g, off, rfl, _⟩ := hc 0 u hu
    have hcl : ∀ j u, xs[j]? = some u → (w.alloc (.cells #[] 34)).cell? ((⟨g, off, none⟩ : Addr).add j) = some u := fun j u hu => by
      obtain ⟨g', o', e, hcc⟩ := hc j u hu
      simp only [Option.some.injEq, Addr.mk.injEq, and_true] at e
      obtain ⟨rfl, rfl⟩ := e
      have hlt : g < w.heap.size := by
        unfold World.cell? at hcc
        cases hg : w.heap[g]? with
        | none => rw [hg] at hcc; cases hcc
        | some _ => exact lt_of_block hg
      rw [Addr.add_lit]
      exact (World.cell?_of_block (w := w) (Below.heap_alloc _ _ _ hlt)).trans hcc
    have hq := fun W => Lib.run_eql_slice_nil (P := Tryz.prog) W _ _ (some ⟨g, off, none⟩) n cap 0 0 Tryz.underlying85
    have HB : Hid (Below w.heap.size w (w.alloc (.cells #[] 34))) := Lib.hid ((Below.refl _ _).alloc (Nat.le_refl _) _)
    have HN : Hid (SlV (w.alloc (.cells #[] 34)) 34 1 (.slice (some ⟨w.heap.size, 0, none⟩) 0 0) 0 []) := Lib.hid ⟨rfl, .inl ⟨rfl, _, rfl⟩⟩
    have HC := Lib.hid hcl
    have HLn := Lib.hid hl
    have H1 := Lib.hid h1
    have hml : n ≤ maxLen := by unfold maxLen; omega
    clear hcl hc hl h1 hu
    go_enter Tryz.func120, Tryz.ntmps120
    go_wp2_with (at_builtin; refine wpList_append_slv _ rfl _ _ 85 rfl 34 i0 (.int .u16 0) 1 2 Tryz.underlying85 hi0 hz0 hz1 hz2 rfl (by decide) _ 0 [] rfl HN.out ⟨g, off, none⟩ n cap xs rfl (by omega) HLn.out HC.out H1.out (by omega) (by omega) ?_; intro v2 w2 hl2 hm2 hb2)
    go_ret
    refine ⟨v2, rfl, ?_, ?_, ?_⟩
    · have := hl2
      rw [Nat.zero_add, List.nil_append] at this
      exact this
    · intro b hb
      refine ⟨?_, ?_⟩
      · have hb3 : v2.ownBlock = some w.heap.size ∨ ∃ k, v2.ownBlock = some k ∧ (w.alloc (.cells #[] 34)).heap.size ≤ k := hb2
        rcases hb3 with g2 | ⟨k, g2, g3⟩
        · rw [g2] at hb
          injection hb with hb
          exact Nat.le_of_eq hb
        · rw [g2] at hb
          injection hb with hb
          simp at g3
          omega
      · obtain ⟨g, q1, q2⟩ := SlV.lt hl2 (by omega)
        have hb' : v2.ownBlock = some b := hb
        rw [q1] at hb'
        injection hb' with hb'
        omega
    · refine Mod.below HB.out hm2 (by simp) fun i _ hi => ?_
      injection hi with hi
      exact Nat.le_of_eq hi
set_option maxRecDepth 100000 in
theorem info_str : (Tryz.prog.info? 9).map (fun i => (i.zero, i.size, i.bytes)) = some (some (.string ByteArray.empty), 1, 16) := by kernel_rfl
set_option maxRecDepth 100000 in
set_option maxHeartbeats 4000000 in
theorem clone_str {w : World} {a : Option Addr} {n cap : Nat} {xs : List Value} (hl : xs.length = n * 1) (hc : At w a xs) (hs : n ≤ 2000000) (h1 : ∀ u, u ∈ xs → u.oneCell' = true) :
    Calls Tryz.prog 62 #[.slice a n cap] w fun e w' => ∃ v', e = .returned v' ∧ SlV w' 9 1 v' n xs ∧ (∀ b, v'.ownBlock = some b → w.heap.size ≤ b ∧ b < w'.heap.size) ∧ Below w.heap.size w w' := by
  obtain ⟨i0, hi0, hz0, hz1, hz2⟩ := info_parts info_str
  by_cases h0 : n = 0
  · subst h0
    obtain rfl : xs = [] := List.length_eq_zero_iff.1 (by omega)
    clear hc
    cases a with
    | none =>
      have hq := fun W => Lib.run_eql_slice_nil (P := Tryz.prog) W _ _ none 0 cap 0 0 Tryz.underlying88
      go_enter Tryz.func62, Tryz.ntmps62
      go_wp2
      first
        | (go_ret; exact ⟨_, rfl, SlV.nil _ _ _, fun b hb => (nomatch hb), Below.refl _ _⟩)
        | (refine bodyPost_ret (v := .slice none 0 0) (by simp [results, Tryz.results62, go_sem, *]) rfl ?_; exact ⟨_, rfl, SlV.nil _ _ _, fun b hb => (nomatch hb), Below.refl _ _⟩)
    | some p =>
      have hq := fun W => Lib.run_eql_slice_nil (P := Tryz.prog) W _ _ (some p) 0 cap 0 0 Tryz.underlying88
      have HB : Hid (Below w.heap.size w (w.alloc (.cells #[] 9))) := Lib.hid ((Below.refl _ _).alloc (Nat.le_refl _) _)
      have HL : Hid (SlV (w.alloc (.cells #[] 9)) 9 1 (.slice (some ⟨w.heap.size, 0, none⟩) 0 0) 0 []) := Lib.hid ⟨rfl, .inl ⟨rfl, _, rfl⟩⟩
      go_enter Tryz.func62, Tryz.ntmps62
      go_wp2
      go_ret
      exact ⟨_, rfl, HL.out, fun b hb => by injection hb with hb; exact ⟨Nat.le_of_eq hb, by rw [← hb]; simp⟩, HB.out⟩
  · obtain ⟨u, hu⟩ : ∃ u, xs[0]? = some u := ⟨_, List.getElem?_eq_getElem (by omega)⟩
    obtain ⟨g, off, rfl, _⟩ := hc 0 u hu
    have hcl : ∀ j u, xs[j]? = some u → (w.alloc (.cells #[] 9)).cell? ((⟨g, off, none⟩ : Addr).add j) = some u := fun j u hu => by
      obtain ⟨g', o', e, hcc⟩ := hc j u hu
      simp only [Option.some.injEq, Addr.mk.injEq, and_true] at e
      obtain ⟨rfl, rfl⟩ := e
      have hlt : g < w.heap.size := by
        unfold World.cell? at hcc
        cases hg : w.heap[g]? with
        | none => rw [hg] at hcc; cases hcc
        | some _ => exact lt_of_block hg
      rw [Addr.add_lit]
      exact (World.cell?_of_block (w := w) (Below.heap_alloc _ _ _ hlt)).trans hcc
    have hq := fun W => Lib.run_eql_slice_nil (P := Tryz.prog) W _ _ (some ⟨g, off, none⟩) n cap 0 0 Tryz.underlying88
    have HB : Hid (Below w.heap.size w (w.alloc (.cells #[] 9))) := Lib.hid ((Below.refl _ _).alloc (Nat.le_refl _) _)
    have HN : Hid (SlV (w.alloc (.cells #[] 9)) 9 1 (.slice (some ⟨w.heap.size, 0, none⟩) 0 0) 0 []) := Lib.hid ⟨rfl, .inl ⟨rfl, _, rfl⟩⟩
    have HC := Lib.hid hcl
    have HLn := Lib.hid hl
    have H1 := Lib.hid h1
    have hml : n ≤ maxLen := by unfold maxLen; omega
    clear hcl hc hl h1 hu
    go_enter Tryz.func62, Tryz.ntmps62
    go_wp2_with (at_builtin; refine wpList_append_slv _ rfl _ _ 88 rfl 9 i0 (.string ByteArray.empty) 1 16 Tryz.underlying88 hi0 hz0 hz1 hz2 rfl (by decide) _ 0 [] rfl HN.out ⟨g, off, none⟩ n cap xs rfl (by omega) HLn.out HC.out H1.out (by omega) (by omega) ?_; intro v2 w2 hl2 hm2 hb2)
    go_ret
    refine ⟨v2, rfl, ?_, ?_, ?_⟩
    · have := hl2
      rw [Nat.zero_add, List.nil_append] at this
      exact this
    · intro b hb
      refine ⟨?_, ?_⟩
      · have hb3 : v2.ownBlock = some w.heap.size ∨ ∃ k, v2.ownBlock = some k ∧ (w.alloc (.cells #[] 9)).heap.size ≤ k := hb2
        rcases hb3 with g2 | ⟨k, g2, g3⟩
        · rw [g2] at hb
          injection hb with hb
          exact Nat.le_of_eq hb
        · rw [g2] at hb
          injection hb with hb
          simp at g3
          omega
      · obtain ⟨g, q1, q2⟩ := SlV.lt hl2 (by omega)
        have hb' : v2.ownBlock = some b := hb
        rw [q1] at hb'
        injection hb' with hb'
        omega
    · refine Mod.below HB.out hm2 (by simp) fun i _ hi => ?_
      injection hi with hi
      exact Nat.le_of_eq hi
end Go.Proofs.YtkbhokmnbpnlbaaGreat.Cl
/- The walks of caps.Check and caps.New; of what Grant asks, where nothing is granted yet. -/
namespace Go.Proofs.YtkbhokmnbpnlbaaGreat
open Go.RowKit
set_option linter.unusedVariables false
set_option linter.unusedSimpArgs false
namespace Ca
def hardOk (hp : Int) (xs : List Int) : Bool := decide (hp ≤ 4096) && decide (xs.length ≤ 16) && xs.all (fun x => decide (x ≤ 1024))
def hardE (hp : Int) (xs : List Int) : Int := if hardOk hp xs = true then 0 else 2
theorem hardE_no {hp : Int} {xs : List Int} (h : hardOk hp xs = false) : hardE hp xs = 2 := by unfold hardE; rw [h]; rfl
theorem hardE_yes {hp : Int} {xs : List Int} (h : hardOk hp xs = true) : hardE hp xs = 0 := by unfold hardE; rw [h]; rfl
def ckRel (w : World) (xs : List Int) (vi : Value) (wr : World) : Prop := ∃ i : Nat, i ≤ xs.length ∧ vi = .int .i64 i ∧ (∀ (k : Nat) (x : Int), k < i → xs[k]? = some x → x ≤ 1024) ∧ Below w.heap.size w wr
theorem words_below {w w' : World} {a : Option Addr} {xs : List Int} (h : Rs.Words w a xs) (hb : Below w.heap.size w w') : Rs.Words w' a xs := by
  refine ⟨fun i hi => ?_, h.len⟩
  obtain ⟨g, o, e, hc⟩ := h.cell i hi
  have hl : g < w.heap.size := by
    unfold World.cell? at hc
    cases hg : w.heap[g]? with
    | none => rw [hg] at hc; cases hc
    | some _ => exact lt_of_block hg
  exact ⟨g, o, e, (World.cell?_of_block (w := w) (hb.block _ hl)).trans hc⟩
theorem words_at {w : World} {a : Option Addr} {xs : List Int} (h : Rs.Words w a xs) : Cl.At w a (xs.map (Value.int .u32)) := fun j u hu => by
  have hj : j < xs.length := by have := (List.getElem?_eq_some_iff.1 hu).1; simpa using this
  obtain ⟨g, o, e, hc⟩ := h.cell j hj
  refine ⟨g, o, e, hc.trans ?_⟩
  rw [← hu, List.getElem?_map, List.getElem?_eq_getElem hj]
  rfl
set_option maxRecDepth 100000 in
set_option maxHeartbeats 4000000 in
theorem check {w : World} {a : Option Addr} {cap : Nat} {hp : Int} {xs : List Int} (h : Rs.Words w a xs) (hb0 : ∀ x, x ∈ xs → 0 ≤ x ∧ x ≤ 4294967295) (p0 : 0 ≤ hp) :
    Calls Tryz.prog 138 #[.agg #[.int .u32 hp, .slice a xs.length cap]] w fun e w' => e = .returned (.int .i64 (hardE hp xs)) ∧ Below w.heap.size w w' := by
  have hl := h.len
  have HW := Lib.hid fun V (hV : Below w.heap.size w V) => words_below h hV
  have hb : Below w.heap.size w (w.alloc (.cells #[.int .u32 hp, .slice a xs.length cap] 45)) := (Below.refl _ _).alloc (Nat.le_refl _) _
  have HB := Lib.hid hb
  clear hb h
  by_cases h1 : 4096 < hp
  · have HE : Hid (hardOk hp xs = false) := Lib.hid (by unfold hardOk; rw [decide_eq_false (by omega)]; rfl)
    go_enter Tryz.func138, Tryz.ntmps138
    go_wp2
    go_ret
    exact ⟨by rw [hardE_no HE.out]; rfl, HB.out⟩
  by_cases h2 : 16 < xs.length
  · have HE : Hid (hardOk hp xs = false) := Lib.hid (by unfold hardOk; rw [decide_eq_false (show ¬ xs.length ≤ 16 by omega)]; simp)
    go_enter Tryz.func138, Tryz.ntmps138
    go_wp2
    go_ret
    exact ⟨by rw [hardE_no HE.out]; rfl, HB.out⟩
  have HA : Hid (hardOk hp xs = xs.all (fun x => decide (x ≤ 1024))) := Lib.hid (by unfold hardOk; rw [decide_eq_true (by omega), decide_eq_true (by omega)]; simp)
  go_enter Tryz.func138, Tryz.ntmps138
  go_wp2
  go_loopw [4, 17] (fun _ vi wr => ckRel w xs vi wr) (fun _ vi _ => xs.length - (intOf vi).toNat)
  case atStart => exact ⟨0, by omega, by go_num, fun k x hk => absurd hk (Nat.not_lt_zero _), HB.out⟩
  case round =>
    obtain ⟨i, hi, rfl, hno, hbw⟩ := hrel
    have HNo := Lib.hid hno
    have HB1 := Lib.hid hbw
    clear hno
    by_cases hin : i < xs.length
    · obtain ⟨g, off, rfl, hc⟩ := (HW.out wr hbw).cell i hin
      have HX : Hid (xs[i]? = some xs[i]) := Lib.hid (List.getElem?_eq_getElem hin)
      generalize xs[i] = x at *
      clear hbw
      by_cases hx : 1024 < x
      · have HE : Hid (xs.all (fun x => decide (x ≤ 1024)) = false) := Lib.hid (by
          rw [List.all_eq_false]
          exact ⟨x, List.mem_of_getElem? HX.out, by simp; omega⟩)
        go_wp2
        go_ret
        exact ⟨by rw [hardE_no (HA.out.trans HE.out)]; rfl, HB1.out⟩
      · go_wp2
        refine ⟨⟨i + 1, by omega, by go_num, fun k y hk hy => ?_, HB1.out⟩, by simp [intOf]; omega⟩
        rcases Nat.lt_or_ge k i with q | q
        · exact HNo.out k y q hy
        · obtain rfl : k = i := by omega
          rw [HX.out] at hy
          cases hy
          omega
    · have HE : Hid (xs.all (fun x => decide (x ≤ 1024)) = true) := Lib.hid (by
        rw [List.all_eq_true]
        intro x hx
        obtain ⟨k, hk⟩ := List.getElem?_of_mem hx
        exact decide_eq_true (HNo.out k x (by have := (List.getElem?_eq_some_iff.1 hk).1; omega) hk))
      clear hbw
      go_wp2
      go_ret
      exact ⟨by rw [hardE_yes (HA.out.trans HE.out)]; rfl, HB1.out⟩
def NewPost (w : World) (hp : Int) (xs : List Int) (e : Ending) (w' : World) : Prop :=
  ∃ cb mb hv, e = .returned (.tuple #[.pointer (some ⟨cb, 0, none⟩), .int .i64 0]) ∧ Cps w' ⟨cb, mb, hv, cb, .slice none 0 0, .slice none 0 0⟩ hp none ∧ SlV w' 22 1 hv xs.length (xs.map (Value.int .u32)) ∧ (∀ b, hv.ownBlock = some b → w.heap.size ≤ b ∧ b < w'.heap.size ∧ b ≠ cb ∧ b ≠ mb) ∧ w.heap.size ≤ mb ∧ w.heap.size ≤ cb ∧ Below w.heap.size w w'
theorem u32_one (xs : List Int) : ∀ u, u ∈ xs.map (Value.int .u32) → u.oneCell' = true := fun u hu => by
  obtain ⟨x, _, rfl⟩ := List.mem_map.1 hu
  rfl
set_option maxRecDepth 100000 in
set_option maxHeartbeats 4000000 in
theorem new_bad {w : World} {a : Option Addr} {cap : Nat} {hp : Int} {xs : List Int} (h : Rs.Words w a xs) (hb0 : ∀ x, x ∈ xs → 0 ≤ x ∧ x ≤ 4294967295) (p0 : 0 ≤ hp) (hk : hardOk hp xs = false) :
    Calls Tryz.prog 56 #[.agg #[.int .u32 hp, .slice a xs.length cap]] w fun e w' => e = .returned (.tuple #[.pointer none, .int .i64 2]) ∧ Below w.heap.size w w' := by
  have hb : Below w.heap.size w (w.alloc (.cells #[.int .u32 hp, .slice a xs.length cap] 45)) := (Below.refl _ _).alloc (Nat.le_refl _) _
  have hch := check (cap := cap) (words_below h hb) hb0 p0
  rw [hardE_no hk] at hch
  have HCh := Lib.hid hch
  have HB := Lib.hid hb
  clear hch hb h hk
  go_enter Tryz.func56, Tryz.ntmps56
  go_wp2_with fail
  refine HCh.out.mono ?_
  rintro e w2 ⟨rfl, hb2⟩
  have HB2 := Lib.hid (below_th HB.out hb2)
  clear hb2
  go_wp2
  go_ret2
  exact ⟨rfl, HB2.out⟩
set_option maxRecDepth 100000 in
set_option maxHeartbeats 4000000 in
theorem new {w : World} {a : Option Addr} {cap : Nat} {hp : Int} {xs : List Int} (h : Rs.Words w a xs) (hb0 : ∀ x, x ∈ xs → 0 ≤ x ∧ x ≤ 4294967295) (p0 : 0 ≤ hp) (hk : hardOk hp xs = true) :
    Calls Tryz.prog 56 #[.agg #[.int .u32 hp, .slice a xs.length cap]] w (NewPost w hp xs) := by
  have hmm := @run_makeMap Tryz.prog
  have hln : xs.length ≤ 16 := by
    unfold hardOk at hk
    simp at hk
    omega
  have hb : Below w.heap.size w (w.alloc (.cells #[.int .u32 hp, .slice a xs.length cap] 45)) := (Below.refl _ _).alloc (Nat.le_refl _) _
  have hblk := heap_alloc_new w (.cells #[.int .u32 hp, .slice a xs.length cap] 45)
  have hch := check (cap := cap) (words_below h hb) hb0 p0
  rw [hardE_yes hk] at hch
  have HCh := Lib.hid hch
  have HW := Lib.hid fun V (hV : Below w.heap.size w V) => Cl.clone_u32 (cap := cap) (n := xs.length) (by simp) (words_at (words_below h hV)) (by omega) (u32_one xs)
  have HFin : Hid (∀ V hv, Below w.heap.size w V → w.heap.size < V.heap.size → SlV V 22 1 hv xs.length (xs.map (Value.int .u32)) → (∀ b, hv.ownBlock = some b → w.heap.size < b ∧ b < V.heap.size) → NewPost w hp xs (.returned (.tuple #[.pointer (some ⟨V.heap.size + 1, 0, none⟩), .int .i64 0])) (((V.setCell ⟨w.heap.size, 1, none⟩ hv).alloc (.map #[] 0)).alloc (.cells #[.int .u32 hp, hv, .map (some V.heap.size)] 188))) := Lib.hid fun V hv hV hlt hsl ho => by
    have hm1 : Mod (fun i => i = w.heap.size) V (V.setCell ⟨w.heap.size, 1, none⟩ hv) := Mod.setCell (F := fun i => i = w.heap.size) (Mod.refl _ _) ⟨w.heap.size, 1, none⟩ (.inl rfl) _
    have hb1 := Mod.below hV hm1 hV.size fun i _ e => Nat.le_of_eq e.symm
    have hs1 : (V.setCell ⟨w.heap.size, 1, none⟩ hv).heap.size = V.heap.size := by simp [World.setCell]
    have hsl1 := hsl.mod hm1 fun k hk e => by have := ho k hk; omega
    generalize V.setCell ⟨w.heap.size, 1, none⟩ hv = V1 at *
    have hown := World.ownsMap_made V1 Tryz.prog 3 ptrElem
    have hb2 : Below V1.heap.size V1 (V1.alloc (.map #[] 0)) := (Below.refl _ _).alloc (Nat.le_refl _) _
    have hs2 : (V1.alloc (.map #[] 0)).heap.size = V.heap.size + 1 := by simp [hs1]
    have hsl2 := hsl1.below hb2
    rw [hs1] at hown
    generalize V1.alloc (.map #[] 0) = V2 at *
    have hnew := heap_alloc_new V2 (.cells #[.int .u32 hp, hv, .map (some V.heap.size)] 188)
    have hb3 : Below V2.heap.size V2 (V2.alloc (.cells #[.int .u32 hp, hv, .map (some V.heap.size)] 188)) := (Below.refl _ _).alloc (Nat.le_refl _) _
    have hz3 : (V2.alloc (.cells #[.int .u32 hp, hv, .map (some V.heap.size)] 188)).heap.size = V.heap.size + 2 := by simp [hs2]
    rw [hs2] at hnew
    exact ⟨V.heap.size + 1, V.heap.size, hv, rfl, ⟨hnew, ⟨_, _, hown.alloc _, fun x zd => by rw [if_neg (by simp)]; rfl, rfl⟩, fun G hG => (by cases hG), fun G hG => (by cases hG), by rw [hz3]; show V.heap.size + 1 < _; omega⟩, hsl2.below hb3, fun b hb => by have := ho b hb; exact ⟨by omega, by omega, by omega, by omega⟩, by omega, by omega, below_th (below_th hb1 hb2) hb3⟩
  generalize NewPost w hp xs = PQ at *
  have HB := Lib.hid hb
  have HBlk := Lib.hid hblk
  clear hch hb h hk hblk
  go_enter Tryz.func56, Tryz.ntmps56
  go_wp2_with fail
  refine HCh.out.mono ?_
  rintro e w2 ⟨rfl, hb2⟩
  have hB2 := below_th HB.out hb2
  have hbk2 := (hb2.block _ (lt_of_block HBlk.out)).trans HBlk.out
  obtain ⟨c0, c1, cf⟩ := two_of hbk2
  have HB2 := Lib.hid hB2
  have HBk2 := Lib.hid hbk2
  clear hb2 hB2 hbk2 HCh
  go_wp2_with fail
  refine (HW.out _ HB2.out).mono ?_
  rintro e w3 ⟨hv, rfl, hsl, ho, hb3⟩
  obtain ⟨oa, oc, rfl⟩ := hsl.form
  have hbk3 := (hb3.block _ (lt_of_block HBk2.out)).trans HBk2.out
  obtain ⟨c0, c1, cf⟩ := two_of hbk3
  have HF3 := Lib.hid (HFin.out w3 _ (below_th HB2.out hb3) (by have := lt_of_block hbk3; omega) hsl (fun b hb => by have := ho b hb; have := lt_of_block HBk2.out; omega))
  clear ho hsl hb3 hbk3 HW HFin
  go_wp2
  exact HF3.out
end Ca
end Go.Proofs.YtkbhokmnbpnlbaaGreat
/- The walks of caps: Free; what Grant asks, where nothing is granted yet. -/
namespace Go.Proofs.YtkbhokmnbpnlbaaGreat
open Go.RowKit
set_option linter.unusedVariables false
set_option linter.unusedSimpArgs false
namespace Gp
def freeV (hp : Int) (g : Option Gr) : Int := match g with | none => hp | some G => (hp - G.m.pages) % 4294967296
end Gp
theorem u32_cell {w : World} {ao : Option Addr} {ac : Nat} {l : List Int} (h : SlV w 22 1 (.slice ao l.length ac) l.length (l.map (Value.int .u32))) {i : Nat} {x : Int} (hx : l[i]? = some x) : ∃ g off, ao = some ⟨g, off, none⟩ ∧ w.cell? ⟨g, off + i, none⟩ = some (.int .u32 x) := by
  have hi := (List.getElem?_eq_some_iff.1 hx).1
  rcases h.2 with ⟨h0, _⟩ | ⟨g, off, cap, cur, hv, hg, _⟩
  · omega
  · simp only [Value.slice.injEq] at hv
    obtain ⟨rfl, _, rfl⟩ := hv
    refine ⟨g, off, rfl, ?_⟩
    rw [h.cell i (by omega), List.getElem?_map, hx]
    rfl
namespace Ca
/-- The one entry of the map of grants. -/
theorem entry_one {hp : Int} {g : Option Gr} {gb : Nat} {D : DataW Unit} (hv : ∀ x zd, D.atKey (.int .i64 x) zd = if x = 1 ∧ g.isSome = true then .lit (.int .i64 gb) else zd) {x : Int} {y : DataW Unit} (hat : ∀ zd, D.atKey (.int .i64 x) zd = y) : x = 1 ∧ g.isSome = true ∧ y = .lit (.int .i64 gb) := by
  by_cases h : x = 1 ∧ g.isSome = true
  · refine ⟨h.1, h.2, ?_⟩
    rw [← hat y, hv, if_pos h]
  · have g1 := hat (.lit (.int .i64 0))
    have g2 := hat (.lit (.int .i64 1))
    rw [hv, if_neg h] at g1 g2
    rw [← g1] at g2
    simp at g2
def frV (hp : Int) (g : Option Gr) (b : Bool) : Int := if b = true then hp else Gp.freeV hp g
def frRel (w : World) (a : CAt) (hp : Int) (g : Option Gr) (D : DataW Unit) (n r : Nat) (vn : Value) (wr : World) : Prop :=
  ∃ left cnt, wr.ranges Tryz.prog 3 ptrElem a.mb r n D left cnt ∧ Below w.heap.size w wr ∧ vn = .int .u32 (frV hp g (left (.int .i64 1))) ∧ w.heap.size ≤ r
section
variable {w : World} {a : CAt} {hp : Int} {g : Option Gr}
set_option maxRecDepth 100000 in
set_option maxHeartbeats 4000000 in
theorem free (h : Cps w a hp g) : Calls Tryz.prog 112 #[.pointer (some ⟨a.cb, 0, none⟩)] w fun e w' => e = .returned (.int .u32 (Gp.freeV hp g)) ∧ Below w.heap.size w w' := by
  have K := Maps.int_keyed (P := Tryz.prog) Tryz.underlying3
  obtain ⟨D, n, ho, hv, hs⟩ := h.map
  have Hv := Lib.hid hv
  have H := Lib.hid h
  have Ho := Lib.hid ho
  obtain ⟨c0, c1, c2⟩ := h.cells
  clear h hv hs ho
  go_enter Tryz.func112, Tryz.ntmps112
  go_wp2_with (at_range; refine wpList_range_own _ rfl _ 186 rfl 3 185 K Tryz.underlying186 ptrElem a.mb n D rfl Ho.out ?_; intro w2 hrg hg2 hz2)
  have h2 : frRel w a hp g D n w.heap.size (.int .u32 hp) w2 := by
    refine ⟨_, _, hrg, (Below.refl _ _).grown hg2 (Nat.le_refl _) (fun k e => by cases e), ?_, Nat.le_refl _⟩
    cases g with
    | none => unfold frV; split <;> rfl
    | some G =>
      have : Maps.has D (.int .i64 1) = true := Maps.has_true_of_atKey (y := .lit (.int .i64 a.gb)) fun zd => by rw [Hv.out, if_pos ⟨rfl, rfl⟩]
      unfold frV
      rw [this]
      rfl
  have H2 := Lib.hid h2
  obtain ⟨r, hr⟩ : ∃ r, w.heap.size = r := ⟨_, rfl⟩
  rw [show frRel w a hp g D n w.heap.size = frRel w a hp g D n r by rw [hr]] at H2
  rw [hr]
  clear hr hrg hg2 hz2 h2
  go_frame
  go_loopw [3, 5] (fun vn _ wr => frRel w a hp g D n r vn wr) (fun _ _ wr => wr.rangeLeft a.mb r)
  case atStart => exact H2.out
  case round =>
    clear H2 c0 c1 c2
    obtain ⟨left, cnt, hrg, hbw, rfl, hr3⟩ := hrel
    have Hrg := Lib.hid hrg
    have Hbw := Lib.hid hbw
    have Hr3 := Lib.hid hr3
    clear hrg hbw hr3
    go_wp2_with (at_next; refine wpList_next_ranges _ rfl _ rfl 3 K ptrElem (Value.int .i64) id (fun key kl hk => by obtain ⟨x, hx, _⟩ := Maps.keyOf_int_inv Tryz.underlying3 hk; exact ⟨x, hx⟩) (fun v _ _ => ⟨v, rfl⟩) a.mb r n D left cnt rfl Hrg.out ?_ ?_)
    · intro hc0 hl0
      have HV : Hid (frV hp g (left (.int .i64 1)) = Gp.freeV hp g) := Lib.hid (by rw [hl0]; rfl)
      go_wp2
      go_ret
      exact ⟨by rw [HV.out]; rfl, Hbw.out⟩
    · intro x c kl y1 y2 w3 cnt2 hkey hlk hR hat3 hrg3 hlt hg3 hs3 hen
      obtain ⟨x', ex, rfl, hwx⟩ := Maps.keyOf_int_inv Tryz.underlying3 hkey
      obtain rfl : x = x' := by simpa using ex
      obtain ⟨rfl, hgs, rfl⟩ := entry_one (hp := hp) Hv.out hat3
      obtain ⟨G, rfl⟩ := Option.isSome_iff_exists.1 hgs
      obtain rfl : c = .pointer (some ⟨a.gb, 0, none⟩) := by
        rcases ptrElem_inv hR with ⟨_, hb⟩ | ⟨b, e, hb⟩
        · omega
        · have : b = a.gb := by omega
          subst this
          exact e
      have hw3b : Below w.heap.size w w3 := Hbw.out.grown hg3 Hbw.out.size (fun k e => by cases e; exact Hr3.out)
      have hC3 := H.out.below hw3b
      obtain ⟨g0, g1, g2, g3, g4, g5, _⟩ := gr_cells (hC3.grant G rfl).1
      have hok := (H.out.ok G rfl)
      have p0 := hok.m.p0
      have p1 := hok.m.p1
      have hv1 : frV hp (some G) (left (.int .i64 1)) = hp := by rw [hlk]; rfl
      have wr0 : IntKind.u32.wrap (G.m.pages + 0) = G.m.pages := by rw [Int.add_zero]; exact wrap32 p0 p1
      have fin : frRel w a hp (some G) D n r (.int .u32 (Gp.freeV hp (some G))) w3 := ⟨_, cnt2, hrg3, hw3b, by
        have : (left (.int .i64 1) && !(Lit.int .i64 1).sameKey (.int .i64 1)) = false := by
          rw [show (Lit.int .i64 1).sameKey (.int .i64 1) = true from by decide]; simp
        unfold frV
        rw [this]
        rfl, Hr3.out⟩
      have Fin := Lib.hid fin
      have Fd := Lib.hid (show Below w3.heap.size w3 w3.drew from (Below.refl _ _).drew)
      have fin2 : frRel w a hp (some G) D n r (.int .u32 (Gp.freeV hp (some G))) w3.drew := by
        obtain ⟨l, c, q1, q2, q3, q4⟩ := fin
        exact ⟨l, c, q1, q2.drew, q3, q4⟩
      have Fin2 := Lib.hid fin2
      have hml : w3.rangeLeft a.mb r < cnt := by rw [hrg3.left_eq]; exact hlt
      have hml0 := Hrg.out.left_eq
      have HMl : Hid (w3.rangeLeft a.mb r < wr.rangeLeft a.mb r) := Lib.hid (by rw [hml0]; exact hml)
      clear fin fin2 hkey hlk hR hat3 hrg3 hlt hg3 hs3 hw3b hC3 hok hgs hml hml0 ex hwx
      rw [hv1]
      clear hv1
      unfold Gp.freeV at Fin Fin2
      simp only at Fin Fin2
      go_wp2
      go_region
      all_goals
        go_wp2
        exact ⟨by first | exact Fin.out | exact Fin2.out, HMl.out⟩
/-- Nothing is busy, where nothing is granted. -/
def buRel (w : World) (a : CAt) (D : DataW Unit) (n r : Nat) (wr : World) : Prop :=
  ∃ left cnt, wr.ranges Tryz.prog 3 ptrElem a.mb r n D left cnt ∧ Below w.heap.size w wr
set_option maxRecDepth 100000 in
set_option maxHeartbeats 4000000 in
theorem busy_none (h : Cps w a hp none) (m : Mn) (ev pv : Value) : Calls Tryz.prog 193 #[.pointer (some ⟨a.cb, 0, none⟩), .agg (m.cells ev pv)] w fun e w' => e = .returned (.int .i64 0) ∧ Below w.heap.size w w' := by
  have K := Maps.int_keyed (P := Tryz.prog) Tryz.underlying3
  have hb : Below w.heap.size w (w.alloc (.cells (m.cells ev pv) 87)) := (Below.refl _ _).alloc (Nat.le_refl _) _
  have h1 := h.below hb
  obtain ⟨D, n, ho, hv, hs⟩ := h1.map
  have Hv := Lib.hid hv
  have Ho := Lib.hid ho
  have HB := Lib.hid hb
  obtain ⟨c0, c1, c2⟩ := h1.cells
  unfold Mn.cells at *
  clear h h1 hv hs ho hb
  go_enter Tryz.func193, Tryz.ntmps193
  go_wp2_with (at_range; refine wpList_range_own _ rfl _ 186 rfl 3 185 K Tryz.underlying186 ptrElem a.mb n D rfl Ho.out ?_; intro w2 hrg hg2 hz2)
  obtain ⟨r, hr⟩ : ∃ r, (w.alloc (.cells #[.int .u32 m.pages, ev, pv, .bool m.con] 87)).heap.size = r := ⟨_, rfl⟩
  have hr2 : w.heap.size + 1 = r := by simpa using hr
  rw [hr] at hrg ⊢
  have H2 : Hid (buRel w a D n r w2) := Lib.hid ⟨_, _, hrg, HB.out.grown hg2 HB.out.size (fun k e => by cases e)⟩
  clear hr hr2 hrg hg2 hz2
  go_frame
  go_loopw [6, 8, 9, 10] (fun _ _ _ _ wr => buRel w a D n r wr) (fun _ _ _ _ wr => wr.rangeLeft a.mb r)
  case atStart => exact H2.out
  case round =>
    clear H2 c0 c1 c2
    obtain ⟨left, cnt, hrg, hbw⟩ := hrel
    have Hrg := Lib.hid hrg
    have Hbw := Lib.hid hbw
    clear hrg hbw
    go_wp2_with (at_next; refine wpList_next_ranges _ rfl _ rfl 3 K ptrElem (Value.int .i64) id (fun key kl hk => by obtain ⟨x, hx, _⟩ := Maps.keyOf_int_inv Tryz.underlying3 hk; exact ⟨x, hx⟩) (fun v _ _ => ⟨v, rfl⟩) a.mb r n D left cnt rfl Hrg.out ?_ ?_)
    · intro hc0 hl0
      go_wp2
      go_ret
      exact ⟨rfl, Hbw.out⟩
    · intro x c kl y1 y2 w3 cnt2 hkey hlk hR hat3 hrg3 hlt hg3 hs3 hen
      obtain ⟨x', ex, rfl, hwx⟩ := Maps.keyOf_int_inv Tryz.underlying3 hkey
      obtain rfl : x = x' := by simpa using ex
      obtain ⟨rfl, hgs, rfl⟩ := entry_one (hp := hp) Hv.out hat3
      cases hgs
/-! ### extents that the machine has not, or not so long -/
def extNone (l : List (Int × Int)) (n : Nat) : Bool := l.any fun x => decide ((n : Int) ≤ x.1)
def extLong (l : List (Int × Int)) (hx : List Int) : Bool := l.any fun x => decide (x.1 < hx.length) && decide (hx.getD x.1.toNat 0 < x.2)
def noneE (l : List (Int × Int)) (n : Nat) : Int := if extNone l n = true then 3 else 0
def longE (l : List (Int × Int)) (hx : List Int) : Int := if extLong l hx = true then 5 else 0
def lpRel (w : World) (l : List (Int × Int)) (f : Int × Int → Bool) (vi : Value) (wr : World) : Prop := ∃ i : Nat, i ≤ l.length ∧ vi = .int .i64 i ∧ (∀ (k : Nat) (x : Int × Int), k < i → l[k]? = some x → f x = false) ∧ Below w.heap.size w wr
theorem any_at {l : List (Int × Int)} {f : Int × Int → Bool} {i : Nat} {x : Int × Int} (h : l[i]? = some x) (hf : f x = true) : l.any f = true := List.any_eq_true.2 ⟨x, List.mem_of_getElem? h, hf⟩
theorem any_no {l : List (Int × Int)} {f : Int × Int → Bool} (h : ∀ (k : Nat) (x : Int × Int), k < l.length → l[k]? = some x → f x = false) : l.any f = false := by
  rw [List.any_eq_false]
  intro x hx
  obtain ⟨k, hk⟩ := List.getElem?_of_mem hx
  rw [h k x (List.getElem?_eq_some_iff.1 hk).1 hk]
  simp
theorem hcells (h : Cps w a hp g) {V : World} (hV : Below w.heap.size w V) (o : Obj) : (V.alloc o).cell? ⟨a.cb, 0, none⟩ = some (.int .u32 hp) ∧ (V.alloc o).cell? ⟨a.cb, 1, none⟩ = some a.hv ∧ (V.alloc o).cell? ⟨a.cb, 2, none⟩ = some (.map (some a.mb)) :=
  (h.below (hV.alloc hV.size o)).cells
set_option maxRecDepth 100000 in
set_option maxHeartbeats 4000000 in
theorem none_any (h : Cps w a hp g) {hx : List Int} (hh : SlV w 22 1 a.hv hx.length (hx.map (Value.int .u32))) (hl : hx.length ≤ 16) {m : Mn} {ev pv : Value} (hm : MnAt w ev pv m) (hok : m.ok) :
    Calls Tryz.prog 191 #[.pointer (some ⟨a.cb, 0, none⟩), .agg (m.cells ev pv)] w fun e w' => e = .returned (.int .i64 (noneE m.ext hx.length)) ∧ Below w.heap.size w w' := by
  obtain ⟨ao, ac, rfl⟩ := hm.e.form
  obtain ⟨ho, hc, hhv⟩ := hh.form
  have hcap := slv_len hm.e
  unfold maxLen at hcap
  have HCl := Lib.hid fun V (hV : Below w.heap.size w V) o => by have := hcells h hV o; rw [hhv] at this; exact this
  have HE := Lib.hid fun V (hV : Below w.heap.size w V) => hm.e.below hV
  have HO := Lib.hid hok.e
  have HB : Hid (Below w.heap.size w (w.alloc (.cells #[.int .u32 m.pages, .slice ao m.ext.length ac, pv, .bool m.con] 87))) := Lib.hid ((Below.refl _ _).alloc (Nat.le_refl _) _)
  unfold Mn.cells
  clear h hm hok hhv hh
  go_enter Tryz.func191, Tryz.ntmps191
  go_wp2
  go_loopw [6, 10] (fun _ vi wr => lpRel w m.ext (fun x => decide ((hx.length : Int) ≤ x.1)) vi wr) (fun _ vi _ => m.ext.length - (intOf vi).toNat)
  case atStart => exact ⟨0, by omega, by go_num, fun k x hk => absurd hk (Nat.not_lt_zero _), HB.out⟩
  case round =>
    obtain ⟨i, hi, rfl, hno, hbw⟩ := hrel
    have HNo := Lib.hid hno
    have HB1 := Lib.hid hbw
    clear hno
    by_cases hin : i < m.ext.length
    · obtain ⟨gg, off, rfl, e0, e1⟩ := ext_cells (HE.out wr hbw) (List.getElem?_eq_getElem hin)
      have HX : Hid (m.ext[i]? = some m.ext[i]) := Lib.hid (List.getElem?_eq_getElem hin)
      have hbd := HO.out _ (List.getElem_mem hin)
      generalize m.ext[i] = x at *
      obtain ⟨b0, b1, b2, b3⟩ := hbd
      have d0 := fun o => (HCl.out wr HB1.out o).1
      have d1 := fun o => (HCl.out wr HB1.out o).2.1
      have HAl : Hid (∀ o, Below w.heap.size w (wr.alloc o)) := Lib.hid fun o => HB1.out.alloc HB1.out.size _
      clear hbw
      by_cases hx1 : (hx.length : Int) ≤ x.1
      · have HV : Hid (noneE m.ext hx.length = 3) := Lib.hid (by unfold noneE extNone; rw [if_pos (any_at (f := fun x => decide ((hx.length : Int) ≤ x.1)) HX.out (decide_eq_true hx1))])
        have hd : decide (x.1 ≥ (hx.length : Int)) = true := decide_eq_true hx1
        go_wp2
        go_region
        all_goals
          go_wp2
          go_ret
          exact ⟨by rw [HV.out]; rfl, by first | exact HAl.out _ | exact (HAl.out _).drew⟩
      · have hd : decide (x.1 ≥ (hx.length : Int)) = false := decide_eq_false hx1
        have HX1 := Lib.hid hx1
        go_wp2
        go_region
        all_goals
          go_wp2
          refine ⟨⟨i + 1, by omega, by go_num, fun k y hk hy => ?_, by first | exact HAl.out _ | exact (HAl.out _).drew⟩, by simp [intOf]; omega⟩
          rcases Nat.lt_or_ge k i with q | q
          · exact HNo.out k y q hy
          · obtain rfl : k = i := by omega
            rw [HX.out] at hy
            cases hy
            exact decide_eq_false (by have := HX1.out; omega)
    · have HV : Hid (noneE m.ext hx.length = 0) := Lib.hid (by unfold noneE extNone; rw [any_no (f := fun x => decide ((hx.length : Int) ≤ x.1)) fun k x hk => HNo.out k x (by omega)]; rfl)
      clear hbw
      go_wp2
      go_ret
      exact ⟨by rw [HV.out]; rfl, HB1.out⟩
set_option maxRecDepth 100000 in
set_option maxHeartbeats 4000000 in
theorem long_any (h : Cps w a hp g) {hx : List Int} (hh : SlV w 22 1 a.hv hx.length (hx.map (Value.int .u32))) (hl : hx.length ≤ 16) {m : Mn} {ev pv : Value} (hm : MnAt w ev pv m) (hok : m.ok) :
    Calls Tryz.prog 192 #[.pointer (some ⟨a.cb, 0, none⟩), .agg (m.cells ev pv)] w fun e w' => e = .returned (.int .i64 (longE m.ext hx)) ∧ Below w.heap.size w w' := by
  obtain ⟨ao, ac, rfl⟩ := hm.e.form
  obtain ⟨ho, hc, hhv⟩ := hh.form
  have hcap := slv_len hm.e
  unfold maxLen at hcap
  have HCl := Lib.hid fun V (hV : Below w.heap.size w V) o => by have := hcells h hV o; rw [hhv] at this; exact this
  rw [hhv] at hh
  have HHx := Lib.hid fun V (hV : Below w.heap.size w V) => hh.below hV
  have HE := Lib.hid fun V (hV : Below w.heap.size w V) => hm.e.below hV
  have HO := Lib.hid hok.e
  have HB : Hid (Below w.heap.size w (w.alloc (.cells #[.int .u32 m.pages, .slice ao m.ext.length ac, pv, .bool m.con] 87))) := Lib.hid ((Below.refl _ _).alloc (Nat.le_refl _) _)
  unfold Mn.cells
  clear h hm hok hhv hh
  go_enter Tryz.func192, Tryz.ntmps192
  go_wp2
  go_loopw [6, 10] (fun _ vi wr => lpRel w m.ext (fun x => decide (x.1 < hx.length) && decide (hx.getD x.1.toNat 0 < x.2)) vi wr) (fun _ vi _ => m.ext.length - (intOf vi).toNat)
  case atStart => exact ⟨0, by omega, by go_num, fun k x hk => absurd hk (Nat.not_lt_zero _), HB.out⟩
  case round =>
    obtain ⟨i, hi, rfl, hno, hbw⟩ := hrel
    have HNo := Lib.hid hno
    have HB1 := Lib.hid hbw
    clear hno
    by_cases hin : i < m.ext.length
    · obtain ⟨gg, off, rfl, e0, e1⟩ := ext_cells (HE.out wr hbw) (List.getElem?_eq_getElem hin)
      have HX : Hid (m.ext[i]? = some m.ext[i]) := Lib.hid (List.getElem?_eq_getElem hin)
      have hbd := HO.out _ (List.getElem_mem hin)
      generalize m.ext[i] = x at *
      obtain ⟨b0, b1, b2, b3⟩ := hbd
      have d0 := fun o => (HCl.out wr HB1.out o).1
      have d1 := fun o => (HCl.out wr HB1.out o).2.1
      have HAl : Hid (∀ o, Below w.heap.size w (wr.alloc o)) := Lib.hid fun o => HB1.out.alloc HB1.out.size _
      clear hbw
      by_cases hx1 : x.1 < (hx.length : Int)
      · obtain ⟨j, hj⟩ := Int.eq_ofNat_of_zero_le b0
        have hjl : j < hx.length := by omega
        obtain ⟨hg, hoff, rfl, _⟩ := u32_cell (HHx.out wr HB1.out) (List.getElem?_eq_getElem hjl)
        have d2 : ∀ o, (wr.alloc o).cell? ⟨hg, hoff + j, none⟩ = some (.int .u32 hx[j]) := fun o => by
          obtain ⟨g', o', e, q⟩ := u32_cell (HHx.out _ (HAl.out o)) (List.getElem?_eq_getElem hjl)
          simp only [Option.some.injEq, Addr.mk.injEq, and_true] at e
          obtain ⟨rfl, rfl⟩ := e
          exact q
        have HY : Hid (hx.getD x.1.toNat 0 = hx[j]) := Lib.hid (by rw [hj, Int.toNat_natCast, List.getD_eq_getElem?_getD, List.getElem?_eq_getElem hjl]; rfl)
        have hjn : x.1.toNat = j := by omega
        generalize hx[j] = y at *
        have hd : decide (x.1 < (hx.length : Int)) = true := decide_eq_true hx1
        by_cases hy : y < x.2
        · have HV : Hid (longE m.ext hx = 5) := Lib.hid (by unfold longE extLong; rw [if_pos (any_at (f := fun x => decide (x.1 < hx.length) && decide (hx.getD x.1.toNat 0 < x.2)) HX.out (by rw [HY.out, hd, decide_eq_true hy]; rfl))])
          have hd2 : decide (x.2 > y) = true := decide_eq_true hy
          clear hj
          go_wp2
          go_region
          all_goals
            go_wp2
            go_ret
            exact ⟨by rw [HV.out]; rfl, by first | exact HAl.out _ | exact (HAl.out _).drew⟩
        · have hd2 : decide (x.2 > y) = false := decide_eq_false hy
          have HXF : Hid ((decide (x.1 < hx.length) && decide (hx.getD x.1.toNat 0 < x.2)) = false) := Lib.hid (by rw [HY.out, hd, decide_eq_false hy]; rfl)
          clear hj
          go_wp2
          go_region
          all_goals
            go_wp2
            refine ⟨⟨i + 1, by omega, by go_num, fun k y hk hy => ?_, by first | exact HAl.out _ | exact (HAl.out _).drew⟩, by simp [intOf]; omega⟩
            rcases Nat.lt_or_ge k i with q | q
            · exact HNo.out k y q hy
            · obtain rfl : k = i := by omega
              rw [HX.out] at hy
              cases hy
              exact HXF.out
      · have hd : decide (x.1 < (hx.length : Int)) = false := decide_eq_false hx1
        have HXF : Hid ((decide (x.1 < hx.length) && decide (hx.getD x.1.toNat 0 < x.2)) = false) := Lib.hid (by rw [hd]; rfl)
        go_wp2
        go_region
        all_goals
          go_wp2
          refine ⟨⟨i + 1, by omega, by go_num, fun k y hk hy => ?_, by first | exact HAl.out _ | exact (HAl.out _).drew⟩, by simp [intOf]; omega⟩
          rcases Nat.lt_or_ge k i with q | q
          · exact HNo.out k y q hy
          · obtain rfl : k = i := by omega
            rw [HX.out] at hy
            cases hy
            exact HXF.out
    · have HV : Hid (longE m.ext hx = 0) := Lib.hid (by unfold longE extLong; rw [any_no (f := fun x => decide (x.1 < hx.length) && decide (hx.getD x.1.toNat 0 < x.2)) fun k x hk => HNo.out k x (by omega)]; rfl)
      clear hbw
      go_wp2
      go_ret
      exact ⟨by rw [HV.out]; rfl, HB1.out⟩
end
end Ca
end Go.Proofs.YtkbhokmnbpnlbaaGreat
/- The walks of demand.Check and of caps.Grant, where nothing is granted yet. -/
namespace Go.Proofs.YtkbhokmnbpnlbaaGreat
open Go.RowKit
set_option linter.unusedVariables false
set_option linter.unusedSimpArgs false
namespace Gp
def checkE (m : Mn) : Int := if mayM m = true then 0 else 2
end Gp
theorem man_cells {w : World} {b : Nat} {m : Mn} {ev pv : Value} (h : w.heap[b]? = some (.cells (m.cells ev pv) 87 (0, 0))) : w.cell? ⟨b, 0, none⟩ = some (.int .u32 m.pages) ∧ w.cell? ⟨b, 1, none⟩ = some ev ∧ w.cell? ⟨b, 2, none⟩ = some pv ∧ w.cell? ⟨b, 3, none⟩ = some (.bool m.con) ∧ ∀ i, w.frozen? ⟨b, i, none⟩ = false := by
  refine ⟨?_, ?_, ?_, ?_, fun i => ?_⟩
  · unfold World.cell?; rw [h]; rfl
  · unfold World.cell?; rw [h]; rfl
  · unfold World.cell?; rw [h]; rfl
  · unfold World.cell?; rw [h]; rfl
  · unfold World.frozen?; rw [h]; simp
namespace Dm
theorem may_eq (m : Mn) {b1 b2 b3 b4 : Bool} (h1 : m.ext.any Gp.badX = b1) (h2 : Gp.risesB (fun a b : Int × Int => decide (a.1 < b.1)) m.ext = b2) (h3 : Gp.risesB (fun a b : Int => decide (a < b)) m.ports = b3) (h4 : decide ((0 : Int) ∈ m.ports) = b4) : Gp.checkE m = if (!b1 && b2 && b3 && !b4 && decide (m.ports.length ≤ 16) && decide (m.pages ≤ 1024)) = true then 0 else 2 := by
  unfold Gp.checkE Gp.mayM
  rw [h1, h2, h3, h4]
set_option maxRecDepth 100000 in
set_option maxHeartbeats 4000000 in
theorem check {w : World} {m : Mn} {ev pv : Value} (h : MnAt w ev pv m) : Calls Tryz.prog 116 #[.agg (m.cells ev pv)] w fun e w' => e = .returned (.int .i64 (Gp.checkE m)) ∧ Below w.heap.size w w' := by
  have hb : Below w.heap.size w (w.alloc (.cells (m.cells ev pv) 87)) := (Below.refl _ _).alloc (Nat.le_refl _) _
  have hblk := heap_alloc_new w (.cells (m.cells ev pv) 87)
  obtain ⟨pa, pc, hpv⟩ := h.p.form
  have hlen : m.ports.length ≤ 9223372036854775807 := by have := slv_len h.p; unfold maxLen at this; omega
  have H1 := Lib.hid (anyBad (h.e.below hb))
  have H2 := Lib.hid fun V (hV : Below w.heap.size w V) => risesX (h.e.below hV)
  have H3 := Lib.hid fun V (hV : Below w.heap.size w V) => rises16 (h.p.below hV)
  have H4 := Lib.hid fun V (hV : Below w.heap.size w V) => Ca.contains (h.p.below hV) 0
  rw [hpv] at H3 H4
  obtain ⟨b1, e1⟩ : ∃ b, m.ext.any Gp.badX = b := ⟨_, rfl⟩
  obtain ⟨b2, e2⟩ : ∃ b, Gp.risesB (fun a b : Int × Int => decide (a.1 < b.1)) m.ext = b := ⟨_, rfl⟩
  obtain ⟨b3, e3⟩ : ∃ b, Gp.risesB (fun a b : Int => decide (a < b)) m.ports = b := ⟨_, rfl⟩
  obtain ⟨b4, e4⟩ : ∃ b, decide ((0 : Int) ∈ m.ports) = b := ⟨_, rfl⟩
  have HM := Lib.hid (may_eq m e1 e2 e3 e4)
  rw [e1] at H1
  rw [e2] at H2
  rw [e3] at H3
  rw [e4] at H4
  have HB := Lib.hid hb
  have HBlk := Lib.hid hblk
  unfold Mn.cells at *
  rw [hpv] at HB HBlk H1 ⊢
  have HC := Lib.hid fun V (hV : Below (w.alloc (.cells #[.int .u32 m.pages, ev, .slice pa m.ports.length pc, .bool m.con] 87)).heap.size (w.alloc (.cells #[.int .u32 m.pages, ev, .slice pa m.ports.length pc, .bool m.con] 87)) V) => man_cells (m := m) ((hV.block _ (lt_of_block HBlk.out)).trans HBlk.out)
  clear e1 e2 e3 e4 hb hblk hpv h
  obtain ⟨n, hn⟩ : ∃ n, m.ports.length = n := ⟨_, rfl⟩
  obtain ⟨p, hp⟩ : ∃ p, m.pages = p := ⟨_, rfl⟩
  rw [hn] at HM HB HBlk H1 H3 H4 HC hlen ⊢
  rw [hp] at HM HB HBlk H1 HC ⊢
  clear hn hp
  go_enter Tryz.func116, Tryz.ntmps116
  go_wp2_with fail
  refine H1.out.mono ?_
  rintro e w1 ⟨rfl, hb1⟩
  have HB1 := Lib.hid (below_th HB.out hb1)
  obtain ⟨c0, c1, c2, c3, _⟩ := HC.out _ hb1
  cases b1 with
  | true =>
    have HE : Hid (Gp.checkE m = 2) := Lib.hid (by rw [HM.out]; rfl)
    clear hb1
    go_wp2
    go_ret
    exact ⟨by rw [HE.out]; rfl, HB1.out⟩
  | false =>
    have Hb1 := Lib.hid hb1
    clear hb1
    go_wp2_with fail
    refine (H2.out _ HB1.out).mono ?_
    rintro e w2 ⟨rfl, hb2⟩
    have HB2 := Lib.hid (below_th HB1.out hb2)
    obtain ⟨c0, c1, c2, c3, _⟩ := HC.out _ (below_th Hb1.out hb2)
    have Hb2 := Lib.hid (below_th Hb1.out hb2)
    clear hb2
    cases b2 with
    | false =>
      have HE : Hid (Gp.checkE m = 2) := Lib.hid (by rw [HM.out]; rfl)
      go_wp2
      go_ret
      exact ⟨by rw [HE.out]; rfl, HB2.out⟩
    | true =>
      go_wp2_with fail
      refine (H3.out _ HB2.out).mono ?_
      rintro e w3 ⟨rfl, hb3⟩
      have HB3 := Lib.hid (below_th HB2.out hb3)
      obtain ⟨c0, c1, c2, c3, _⟩ := HC.out _ (below_th Hb2.out hb3)
      clear hb3
      cases b3 with
      | false =>
        have HE : Hid (Gp.checkE m = 2) := Lib.hid (by rw [HM.out]; rfl)
        go_wp2
        go_ret
        exact ⟨by rw [HE.out]; rfl, HB3.out⟩
      | true =>
        go_wp2_with fail
        refine (H4.out _ HB3.out).mono ?_
        rintro e w4 ⟨rfl, rfl⟩
        cases b4 with
        | true =>
          have HE : Hid (Gp.checkE m = 2) := Lib.hid (by rw [HM.out]; rfl)
          go_wp2
          go_ret
          exact ⟨by rw [HE.out]; rfl, HB3.out⟩
        | false =>
          by_cases q1 : n ≤ 16
          · by_cases q2 : p ≤ 1024
            · have HE : Hid (Gp.checkE m = 0) := Lib.hid (by rw [HM.out, decide_eq_true q1, decide_eq_true q2]; rfl)
              go_wp2
              go_ret
              exact ⟨by rw [HE.out]; rfl, HB3.out⟩
            · have HE : Hid (Gp.checkE m = 2) := Lib.hid (by rw [HM.out, decide_eq_true q1, decide_eq_false q2]; rfl)
              go_wp2
              go_ret
              exact ⟨by rw [HE.out]; rfl, HB3.out⟩
          · have HE : Hid (Gp.checkE m = 2) := Lib.hid (by rw [HM.out, decide_eq_false q1]; simp)
            go_wp2
            go_ret
            exact ⟨by rw [HE.out]; rfl, HB3.out⟩
end Dm
def firstE (l : List Int) : Int := (l.find? fun x => x != 0).getD 0
namespace Ca
section
variable {w : World} {a : CAt} {hp : Int} {g : Option Gr}
def fullE (hp : Int) (m : Mn) (pg : Int) : Int := if hp < m.pages + pg then 4 else 0
theorem full_no {hp : Int} {m : Mn} {pg : Int} (h : hp < m.pages + pg) : fullE hp m pg = 4 := by unfold fullE; rw [if_pos h]
theorem full_yes {hp : Int} {m : Mn} {pg : Int} (h : ¬ hp < m.pages + pg) : fullE hp m pg = 0 := by unfold fullE; rw [if_neg h]
set_option maxRecDepth 100000 in
set_option maxHeartbeats 4000000 in
theorem full (h : Cps w a hp none) {m : Mn} {ev pv : Value} {pb : Nat} {pg : Int} (hpb : w.heap[pb]? = some (.cells #[.int .u32 pg] 22 (0, 0))) (p0 : 0 ≤ m.pages) (p1 : m.pages ≤ 1024) (g0 : 0 ≤ pg) (g1 : pg ≤ 4096) :
    Calls Tryz.prog 117 #[.pointer (some ⟨a.cb, 0, none⟩), .agg (m.cells ev pv), .pointer (some ⟨pb, 0, none⟩)] w fun e w' => e = .returned (.int .i64 (fullE hp m pg)) ∧ Below w.heap.size w w' := by
  have hb : Below w.heap.size w (w.alloc (.cells (m.cells ev pv) 87)) := (Below.refl _ _).alloc (Nat.le_refl _) _
  have hblk := heap_alloc_new w (.cells (m.cells ev pv) 87)
  obtain ⟨c0, c1, c2, c3, _⟩ := man_cells hblk
  have hpc : (w.alloc (.cells (m.cells ev pv) 87)).cell? ⟨pb, 0, none⟩ = some (.int .u32 pg) := by
    unfold World.cell?
    rw [Below.heap_alloc _ _ _ (lt_of_block hpb), hpb]
    rfl
  have HF := Lib.hid fun V (hV : Below (w.alloc (.cells (m.cells ev pv) 87)).heap.size (w.alloc (.cells (m.cells ev pv) 87)) V) => free (h.below (below_th hb hV))
  have HB := Lib.hid hb
  unfold Gp.freeV at HF
  unfold Mn.cells at *
  have wr0 : IntKind.u32.wrap (m.pages + pg) = m.pages + pg := wrap32 (by omega) (by omega)
  clear hb hblk h
  by_cases q : hp < m.pages + pg
  · have HE := Lib.hid (full_no q)
    have hd : decide (m.pages + pg > hp) = true := decide_eq_true q
    go_enter Tryz.func117, Tryz.ntmps117
    go_wp2
    go_region_held3 (fun w' => w'.cell? ⟨w.heap.size, 0, none⟩ = some (.int .u32 m.pages) ∧ w'.cell? ⟨pb, 0, none⟩ = some (.int .u32 pg))
      (first | exact ⟨c0, hpc⟩ | exact ⟨cell_below hx1 c0, cell_below hx1 hpc⟩)
      (first
        | (go_at_call 112
           refine (HF.out _ (by first | exact Below.refl _ _ | exact (Below.refl _ _).drew)).mono ?_
           rintro e x1 ⟨rfl, hx1⟩
           have hb1 : Below w.heap.size w x1 := by first | exact below_th HB.out hx1 | exact below_th HB.out.drew hx1))
    all_goals
      go_wp2
      go_ret
      exact ⟨by rw [HE.out]; rfl, by first | exact hb1 | exact hb1.drew⟩
  · have HE := Lib.hid (full_yes q)
    have hd : decide (m.pages + pg > hp) = false := decide_eq_false q
    go_enter Tryz.func117, Tryz.ntmps117
    go_wp2
    go_region_held3 (fun w' => w'.cell? ⟨w.heap.size, 0, none⟩ = some (.int .u32 m.pages) ∧ w'.cell? ⟨pb, 0, none⟩ = some (.int .u32 pg))
      (first | exact ⟨c0, hpc⟩ | exact ⟨cell_below hx1 c0, cell_below hx1 hpc⟩)
      (first
        | (go_at_call 112
           refine (HF.out _ (by first | exact Below.refl _ _ | exact (Below.refl _ _).drew)).mono ?_
           rintro e x1 ⟨rfl, hx1⟩
           have hb1 : Below w.heap.size w x1 := by first | exact below_th HB.out hx1 | exact below_th HB.out.drew hx1))
    all_goals
      go_wp2
      go_ret
      exact ⟨by rw [HE.out]; rfl, by first | exact hb1 | exact hb1.drew⟩
set_option maxRecDepth 100000 in
set_option maxHeartbeats 8000000 in
theorem each {m : Mn} {ev pv : Value} {lb pb : Nat} (r0 r1 r2 r3 : Int)
    (hf : w.heap[lb]? = some (.cells #[.func (.func 191) #[] #[], .func (.func 192) #[] #[], .func (.func 193) #[] #[], .func (.func 117) #[] #[.pointer (some ⟨pb, 0, none⟩)]] 279 (0, 0)))
    (h0 : ∀ V, Below w.heap.size w V → Calls Tryz.prog 191 #[.pointer (some ⟨a.cb, 0, none⟩), .agg (m.cells ev pv)] V fun e w' => e = .returned (.int .i64 r0) ∧ Below V.heap.size V w')
    (h1 : ∀ V, Below w.heap.size w V → Calls Tryz.prog 192 #[.pointer (some ⟨a.cb, 0, none⟩), .agg (m.cells ev pv)] V fun e w' => e = .returned (.int .i64 r1) ∧ Below V.heap.size V w')
    (h2 : ∀ V, Below w.heap.size w V → Calls Tryz.prog 193 #[.pointer (some ⟨a.cb, 0, none⟩), .agg (m.cells ev pv)] V fun e w' => e = .returned (.int .i64 r2) ∧ Below V.heap.size V w')
    (h3 : ∀ V, Below w.heap.size w V → Calls Tryz.prog 117 #[.pointer (some ⟨a.cb, 0, none⟩), .agg (m.cells ev pv), .pointer (some ⟨pb, 0, none⟩)] V fun e w' => e = .returned (.int .i64 r3) ∧ Below V.heap.size V w') :
    Calls Tryz.prog 190 #[.pointer (some ⟨a.cb, 0, none⟩), .agg (m.cells ev pv), .slice (some ⟨lb, 0, none⟩) 4 4] w fun e w' => e = .returned (.int .i64 (firstE [r0, r1, r2, r3])) ∧ Below w.heap.size w w' := by
  have hb : Below w.heap.size w (w.alloc (.cells (m.cells ev pv) 87)) := (Below.refl _ _).alloc (Nat.le_refl _) _
  have hblk := heap_alloc_new w (.cells (m.cells ev pv) 87)
  have HC := Lib.hid fun V (hV : Below (w.alloc (.cells (m.cells ev pv) 87)).heap.size (w.alloc (.cells (m.cells ev pv) 87)) V) => man_cells (m := m) ((hV.block _ (lt_of_block hblk)).trans hblk)
  have HF : Hid (∀ V, Below w.heap.size w V → V.cell? ⟨lb, 0, none⟩ = some (.func (.func 191) #[] #[]) ∧ V.cell? ⟨lb, 1, none⟩ = some (.func (.func 192) #[] #[]) ∧ V.cell? ⟨lb, 2, none⟩ = some (.func (.func 193) #[] #[]) ∧ V.cell? ⟨lb, 3, none⟩ = some (.func (.func 117) #[] #[.pointer (some ⟨pb, 0, none⟩)])) := Lib.hid fun V hV => by
    have hk := (hV.block _ (lt_of_block hf)).trans hf
    refine ⟨?_, ?_, ?_, ?_⟩ <;> (unfold World.cell?; rw [hk]; rfl)
  have H0 := Lib.hid h0
  have H1 := Lib.hid h1
  have H2 := Lib.hid h2
  have H3 := Lib.hid h3
  have HB0 := Lib.hid hb
  have HG0 := Lib.hid (Below.refl (w.alloc (.cells (m.cells ev pv) 87)).heap.size (w.alloc (.cells (m.cells ev pv) 87)))
  unfold Mn.cells at *
  obtain ⟨c0, c1, c2, c3, _⟩ := HC.out _ HG0.out
  obtain ⟨f0, f1, f2, f3⟩ := HF.out _ HB0.out
  clear h0 h1 h2 h3 hb hblk hf
  go_enter Tryz.func190, Tryz.ntmps190
  go_wp2
  refine wp_loop_rounds 5 ?_
  -- round 0
  rw [rounds_succ]
  go_wp2_with fail
  refine (H0.out _ HB0.out).mono ?_
  rintro e w1 ⟨rfl, hb1⟩
  have HB1 := Lib.hid (below_th HB0.out hb1)
  have HG1 := Lib.hid (below_th HG0.out hb1)
  clear hb1
  try clear c0
  try clear c1
  try clear c2
  try clear c3
  try clear f0
  try clear f1
  try clear f2
  try clear f3
  obtain ⟨c0, c1, c2, c3, _⟩ := HC.out _ HG1.out
  obtain ⟨f0, f1, f2, f3⟩ := HF.out _ HB1.out
  by_cases q0 : r0 = 0
  case neg =>
    have hne : (r0 != 0) = true := bne_iff_ne.2 q0
    have HV : Hid (firstE [r0, r1, r2, r3] = r0) := Lib.hid (by unfold firstE; simp only [List.find?_cons, hne]; rfl)
    go_wp2
    go_ret
    exact ⟨by rw [HV.out]; rfl, HB1.out⟩
  have e0 : (r0 != 0) = false := by rw [q0]; rfl
  clear q0
  go_wp2
  -- round 1
  rw [rounds_succ]
  go_wp2_with fail
  refine (H1.out _ HB1.out).mono ?_
  rintro e w2 ⟨rfl, hb2⟩
  have HB2 := Lib.hid (below_th HB1.out hb2)
  have HG2 := Lib.hid (below_th HG1.out hb2)
  clear hb2
  try clear c0
  try clear c1
  try clear c2
  try clear c3
  try clear f0
  try clear f1
  try clear f2
  try clear f3
  obtain ⟨c0, c1, c2, c3, _⟩ := HC.out _ HG2.out
  obtain ⟨f0, f1, f2, f3⟩ := HF.out _ HB2.out
  by_cases q1 : r1 = 0
  case neg =>
    have hne : (r1 != 0) = true := bne_iff_ne.2 q1
    have HV : Hid (firstE [r0, r1, r2, r3] = r1) := Lib.hid (by unfold firstE; simp only [List.find?_cons, e0, hne]; rfl)
    go_wp2
    go_ret
    exact ⟨by rw [HV.out]; rfl, HB2.out⟩
  have e1 : (r1 != 0) = false := by rw [q1]; rfl
  clear q1
  go_wp2
  -- round 2
  rw [rounds_succ]
  go_wp2_with fail
  refine (H2.out _ HB2.out).mono ?_
  rintro e w3 ⟨rfl, hb3⟩
  have HB3 := Lib.hid (below_th HB2.out hb3)
  have HG3 := Lib.hid (below_th HG2.out hb3)
  clear hb3
  try clear c0
  try clear c1
  try clear c2
  try clear c3
  try clear f0
  try clear f1
  try clear f2
  try clear f3
  obtain ⟨c0, c1, c2, c3, _⟩ := HC.out _ HG3.out
  obtain ⟨f0, f1, f2, f3⟩ := HF.out _ HB3.out
  by_cases q2 : r2 = 0
  case neg =>
    have hne : (r2 != 0) = true := bne_iff_ne.2 q2
    have HV : Hid (firstE [r0, r1, r2, r3] = r2) := Lib.hid (by unfold firstE; simp only [List.find?_cons, e0, e1, hne]; rfl)
    go_wp2
    go_ret
    exact ⟨by rw [HV.out]; rfl, HB3.out⟩
  have e2 : (r2 != 0) = false := by rw [q2]; rfl
  clear q2
  go_wp2
  -- round 3
  rw [rounds_succ]
  go_wp2_with fail
  refine (H3.out _ HB3.out).mono ?_
  rintro e w4 ⟨rfl, hb4⟩
  have HB4 := Lib.hid (below_th HB3.out hb4)
  have HG4 := Lib.hid (below_th HG3.out hb4)
  clear hb4
  try clear c0
  try clear c1
  try clear c2
  try clear c3
  try clear f0
  try clear f1
  try clear f2
  try clear f3
  obtain ⟨c0, c1, c2, c3, _⟩ := HC.out _ HG4.out
  obtain ⟨f0, f1, f2, f3⟩ := HF.out _ HB4.out
  by_cases q3 : r3 = 0
  case neg =>
    have hne : (r3 != 0) = true := bne_iff_ne.2 q3
    have HV : Hid (firstE [r0, r1, r2, r3] = r3) := Lib.hid (by unfold firstE; simp only [List.find?_cons, e0, e1, e2, hne]; rfl)
    go_wp2
    go_ret
    exact ⟨by rw [HV.out]; rfl, HB4.out⟩
  have e3 : (r3 != 0) = false := by rw [q3]; rfl
  clear q3
  have HV : Hid (firstE [r0, r1, r2, r3] = 0) := Lib.hid (by unfold firstE; simp only [List.find?_cons, List.find?_nil, e0, e1, e2, e3]; rfl)
  go_wp2
  rw [rounds_succ]
  go_wp2
  go_ret
  exact ⟨by rw [HV.out]; rfl, HB4.out⟩
end
end Ca
end Go.Proofs.YtkbhokmnbpnlbaaGreat
/- Reg's two laws, with the program left to be found. -/
namespace Go.Proofs.YtkbhokmnbpnlbaaGreat
open Go.RowKit
section
variable {P : Program} {Q : Exit → Act → World → Prop} {md : Region.Mode} {S : World → Prop} {last : Nat}
theorem L_take {l : List Oper} {i : Nat} {oi : Oper} {v : Value} {fuel : Nat} {listed : Array Bool} {a : Act} {w : World} (hi : l[i]? = some oi) (hwt : waitsFor md l.toArray last i = true)
    (hs : Region.noSelect l.toArray = true) (hf : Region.free md l.toArray listed i = true) (hr : (Region.ready md l.toArray listed).contains i = true)
    (hQ : ∀ c a w, Q (.panic c) (a.put oi.dst v) w → Q (.panic c) a w) (hy : YieldsIf P l.toArray S oi v a) (hS : S w)
    (h : AnyE P md l.toArray Q S last fuel (listed.setIfInBounds i true) (a.put oi.dst v) w) : AnyE P md l.toArray Q S last (fuel + 1) listed a w :=
  E_take (by rw [List.getElem?_toArray]; exact hi) hwt hs hf hr hQ hy hS h
theorem L_step {l : List Oper} {i : Nat} {o : Oper} {fuel : Nat} {listed : Array Bool} {a : Act} {w : World} (hr : Region.ready md l.toArray listed = [i]) (ho : l[i]? = some o)
    (h : ∀ K' : Act → World → Prop, Shut (∀ a w, (i ≠ last → S w) → ((i ≠ last → S w) → AnyE P md l.toArray Q S last fuel (listed.setIfInBounds i true) a w) → K' a w) → if Region.wanted o (yielded l.toArray a.tmps) = true then Oper.wp P o a w K' Q else K' (a.put o.dst undef) w) :
    AnyE P md l.toArray Q S last (fuel + 1) listed a w :=
  E_step hr (by rw [List.getElem?_toArray]; exact ho) h
end
end Go.Proofs.YtkbhokmnbpnlbaaGreat
/- The walk of caps.Grant, where nothing is granted yet. -/
namespace Go.Proofs.YtkbhokmnbpnlbaaGreat
open Go.RowKit
set_option linter.unusedVariables false
set_option linter.unusedSimpArgs false
/-- A grant comes in. -/
theorem Cps.insert {w : World} {a : CAt} {hp : Int} (h : Cps w a hp none) {gb : Nat} {ev pv : Value} {m : Mn} (hblk : w.heap[gb]? = some (.cells (grC m 0 ev pv) 206 (0, 0))) (hm : MnAt w ev pv m) (hok : m.ok) (h1 : gb ≠ a.mb) (h2 : ev.ownBlock ≠ some a.mb) (h3 : pv.ownBlock ≠ some a.mb) (h4 : a.cb ≠ a.mb) :
    ∃ w', (Instr.mapUpdate 186 (.map (some a.mb)) (.int .i64 1) (.pointer (some ⟨gb, 0, none⟩))).run Tryz.prog w = .ok () w' ∧ Cps w' { a with gb := gb, ev := ev, pv := pv } hp (some ⟨m, 0⟩) ∧ Mod (fun k => k = a.mb) w w' := by
  obtain ⟨D, n, ho, hv, hs⟩ := h.map
  have hs : Maps.size D = 0 := hs
  have ht := own_tight ho
  have K := Maps.int_keyed (P := Tryz.prog) Tryz.underlying3
  have hk := Maps.keyOf_int_mk (P := Tryz.prog) Tryz.underlying3 (by decide : (Lit.int .i64 1).wf = true)
  obtain ⟨w', hrun, how, htu⟩ := ht.store K Tryz.underlying186 (by rw [hs]; unfold maxLen; omega) (val := .pointer (some ⟨gb, 0, none⟩)) (d := .lit (.int .i64 gb)) (ps := []) hk rfl
  have hg := htu.grown
  have hne : ∀ k, k < w.heap.size → k ≠ a.mb → w'.heap[k]? = w.heap[k]? := fun k hk hkm => hg.block k hk (by simpa using hkm)
  have hmod : Mod (fun k => k = a.mb) w w' := ⟨hg.os, hg.tape, hg.output, hg.size, fun k hk hkm => hne k hk hkm⟩
  refine ⟨w', hrun, ⟨?_, ?_, ?_, ?_, ?_⟩, hmod⟩
  · exact (hne a.cb (h.lt (.inl rfl)) h4).trans h.head
  · refine ⟨_, _, how, fun x zd => ?_, ?_⟩
    · by_cases e : x = 1
      · subst e
        rw [if_pos ⟨rfl, rfl⟩, Maps.atKey_put_same ht.isMap (K.key hk)]
      · rw [if_neg (fun q => e q.1), Maps.atKey_put_other (by intro g; simp at g; exact e g), hv, if_neg (fun q => e q.1)]
    · rw [Maps.size_put (ht.tidy K), hs]
      have : Maps.has D (.int .i64 1) = false := Maps.has_false_of_atKey fun z => by rw [hv, if_neg (by simp)]
      rw [this]
      rfl
  · intro G hG
    cases hG
    exact ⟨(hne gb (lt_of_block hblk) h1).trans hblk, hm.mod hmod (fun k hk e => h2 (e ▸ hk)) fun k hk e => h3 (e ▸ hk)⟩
  · intro G hG
    cases hG
    exact ⟨hok, Int.le_refl 0, hok.p0⟩
  · exact Nat.lt_of_lt_of_le (lt_of_block hblk) hg.size
namespace Ca
set_option maxRecDepth 100000 in
set_option maxHeartbeats 8000000 in
theorem all {w : World} {a : CAt} {m : Mn} {ev pv : Value} {pb : Nat} (r0 r1 r2 r3 : Int)
    (h0 : ∀ V, Below w.heap.size w V → Calls Tryz.prog 191 #[.pointer (some ⟨a.cb, 0, none⟩), .agg (m.cells ev pv)] V fun e w' => e = .returned (.int .i64 r0) ∧ Below V.heap.size V w')
    (h1 : ∀ V, Below w.heap.size w V → Calls Tryz.prog 192 #[.pointer (some ⟨a.cb, 0, none⟩), .agg (m.cells ev pv)] V fun e w' => e = .returned (.int .i64 r1) ∧ Below V.heap.size V w')
    (h2 : ∀ V, Below w.heap.size w V → Calls Tryz.prog 193 #[.pointer (some ⟨a.cb, 0, none⟩), .agg (m.cells ev pv)] V fun e w' => e = .returned (.int .i64 r2) ∧ Below V.heap.size V w')
    (h3 : ∀ V, Below w.heap.size w V → Calls Tryz.prog 117 #[.pointer (some ⟨a.cb, 0, none⟩), .agg (m.cells ev pv), .pointer (some ⟨pb, 0, none⟩)] V fun e w' => e = .returned (.int .i64 r3) ∧ Below V.heap.size V w') :
    Calls Tryz.prog 118 #[.pointer (some ⟨a.cb, 0, none⟩), .agg (m.cells ev pv), .func (.func 117) #[] #[.pointer (some ⟨pb, 0, none⟩)]] w fun e w' => e = .returned (.int .i64 (firstE [r0, r1, r2, r3])) ∧ Below w.heap.size w w' := by
  have HE := Lib.hid fun (V : World) (lb : Nat) hb hf => each (w := V) (a := a) (m := m) (ev := ev) (pv := pv) (lb := lb) (pb := pb) r0 r1 r2 r3 hf (fun U hU => h0 U (below_th hb hU)) (fun U hU => h1 U (below_th hb hU)) (fun U hU => h2 U (below_th hb hU)) (fun U hU => h3 U (below_th hb hU))
  have hb : Below w.heap.size w (w.alloc (.cells (m.cells ev pv) 87)) := (Below.refl _ _).alloc (Nat.le_refl _) _
  have hblk := heap_alloc_new w (.cells (m.cells ev pv) 87)
  obtain ⟨c0, c1, c2, c3, _⟩ := man_cells hblk
  have HB := Lib.hid hb
  unfold Mn.cells at *
  clear hb hblk h0 h1 h2 h3
  go_enter Tryz.func118, Tryz.ntmps118
  go_wp2_with fail
  refine (HE.out _ _ (HB.out.alloc HB.out.size _) (by
    have h := heap_alloc_new (w.alloc (.cells #[.int .u32 m.pages, ev, pv, .bool m.con] 87)) (.cells #[.func (.func 191) #[] #[], .func (.func 192) #[] #[], .func (.func 193) #[] #[], .func (.func 117) #[] #[.pointer (some ⟨pb, 0, none⟩)]] 279)
    rw [show (w.alloc (.cells #[.int .u32 m.pages, ev, pv, .bool m.con] 87)).heap.size = w.heap.size + 1 by simp] at h
    exact h)).mono ?_
  rintro e w2 ⟨rfl, hb2⟩
  have HB2 := Lib.hid (below_th (HB.out.alloc HB.out.size _) hb2)
  clear c0 c1 c2 c3 hb2
  go_wp2
  go_ret
  exact ⟨rfl, HB2.out⟩
end Ca
/-! ### Grant -/
theorem rises_at {l : List (Int × Int)} (h : Gp.risesB (fun a b : Int × Int => decide (a.1 < b.1)) l = true) (h0 : ∀ x, x ∈ l → 0 ≤ x.1) : ∀ (k : Nat) (x : Int × Int), l[k]? = some x → (k : Int) ≤ x.1
  | 0, x, hx => by have := h0 x (List.mem_of_getElem? hx); omega
  | k + 1, x, hx => by
    have hk : k < l.length := by have := (List.getElem?_eq_some_iff.1 hx).1; omega
    have h1 := rises_at h h0 k l[k] (List.getElem?_eq_getElem hk)
    have h2 := (Gp.risesB_iff _ l).1 h k l[k] x (List.getElem?_eq_getElem hk) hx
    simp at h2
    omega
theorem slv_at {w : World} {e : TypeId} {s n oc : Nat} {o : Option Addr} {xs : List Value} (h : SlV w e s (.slice o n oc) n xs) : Cl.At w o xs := fun j u hu => by
  have hj := (List.getElem?_eq_some_iff.1 hu).1
  have hl := h.1
  rcases h.2 with ⟨h0, _⟩ | ⟨g, off, cap, cur, hv, _⟩
  · subst h0; omega
  · cases hv
    exact ⟨g, off, rfl, (SlV.cell h j (by omega)).trans hu⟩
theorem one_ext (l : List (Int × Int)) : ∀ u, u ∈ extC l → u.oneCell' = true := fun u hu => by
  unfold extC at hu
  rw [List.mem_flatMap] at hu
  obtain ⟨x, _, hx⟩ := hu
  simp at hx
  rcases hx with rfl | rfl <;> rfl
theorem one_u16 (l : List Int) : ∀ u, u ∈ l.map (Value.int .u16) → u.oneCell' = true := fun u hu => by
  obtain ⟨x, _, rfl⟩ := List.mem_map.1 hu
  rfl
namespace Ca
def grE (hp : Int) (hx : List Int) (m : Mn) : Int := firstE [noneE m.ext hx.length, longE m.ext hx, 0, fullE hp m 0]
def GrPost (w : World) (a : CAt) (hp : Int) (hx : List Int) (m : Mn) (e : Ending) (w' : World) : Prop :=
  (Gp.checkE m ≠ 0 ∧ e = .returned (.int .i64 2) ∧ Below w.heap.size w w') ∨
  (Gp.checkE m = 0 ∧ grE hp hx m ≠ 0 ∧ e = .returned (.int .i64 (grE hp hx m)) ∧ Below w.heap.size w w') ∨
  (Gp.checkE m = 0 ∧ grE hp hx m = 0 ∧ e = .returned (.int .i64 0) ∧ ∃ gb ev pv, Cps w' { a with gb := gb, ev := ev, pv := pv } hp (some ⟨m, 0⟩) ∧ Mod (fun k => k = a.mb) w w' ∧ (w.heap.size ≤ gb ∧ gb < w'.heap.size) ∧ (∀ k, ev.ownBlock = some k ∨ pv.ownBlock = some k → w.heap.size ≤ k ∧ k < w'.heap.size ∧ k ≠ gb))
theorem ext_len {m : Mn} {hx : List Int} (hl : hx.length ≤ 16) (hok : m.ok) (hc : Gp.checkE m = 0) {x y z : Int} (he : firstE [noneE m.ext hx.length, x, y, z] = 0) : m.ext.length ≤ 16 := by
  have hm : Gp.mayM m = true := by
    unfold Gp.checkE at hc
    split at hc
    · assumption
    · cases hc
  unfold Gp.mayM at hm
  simp only [Bool.and_eq_true] at hm
  have hr := hm.1.1.1.1.2
  have hn : extNone m.ext hx.length = false := by
    cases hq : extNone m.ext hx.length with
    | false => rfl
    | true =>
      unfold firstE noneE at he
      rw [hq] at he
      simp at he
  unfold extNone at hn
  rw [List.any_eq_false] at hn
  rcases Nat.lt_or_ge 16 m.ext.length with q | q
  · exfalso
    have h16 : m.ext[16]? = some m.ext[16] := List.getElem?_eq_getElem q
    have h1 := rises_at hr (fun x hx => (hok.e x hx).1) 16 _ h16
    have h2 := hn _ (List.mem_of_getElem? h16)
    simp at h2
    omega
  · exact q
theorem may_num {m : Mn} (hc : Gp.checkE m = 0) : m.ports.length ≤ 16 ∧ m.pages ≤ 1024 := by
  have hm : Gp.mayM m = true := by
    unfold Gp.checkE at hc
    split at hc
    · assumption
    · cases hc
  unfold Gp.mayM at hm
  simp only [Bool.and_eq_true, decide_eq_true_eq] at hm
  exact ⟨hm.1.2, hm.2⟩
set_option maxRecDepth 100000 in
set_option maxHeartbeats 8000000 in
theorem grant {w : World} {a : CAt} {hp : Int} {hx : List Int} (h : Cps w a hp none) (hh : SlV w 22 1 a.hv hx.length (hx.map (Value.int .u32))) (hl : hx.length ≤ 16) {m : Mn} {ev pv : Value} (hm : MnAt w ev pv m) (hok : m.ok) :
    Calls Tryz.prog 47 #[.pointer (some ⟨a.cb, 0, none⟩), .int .i64 1, .agg (m.cells ev pv), .int .u32 0] w (GrPost w a hp hx m) := by
  have hcm : a.cb ≠ a.mb := fun e => by
    obtain ⟨D, n, ⟨es, clock, hb, _⟩, _⟩ := h.map
    rw [← e, h.head] at hb
    cases hb
  have hb0 : Below w.heap.size w (w.alloc (.cells (m.cells ev pv) 87)) := (Below.refl _ _).alloc (Nat.le_refl _) _
  have hb1 := hb0.alloc hb0.size (.cells #[.int .u32 0] 22)
  have hbk0 : ((w.alloc (.cells (m.cells ev pv) 87)).alloc (.cells #[.int .u32 0] 22)).heap[w.heap.size]? = some (.cells (m.cells ev pv) 87) := (Below.heap_alloc _ _ _ (lt_of_block (heap_alloc_new w _))).trans (heap_alloc_new w _)
  have hbk1 := heap_alloc_new (w.alloc (.cells (m.cells ev pv) 87)) (.cells #[.int .u32 0] 22)
  rw [show (w.alloc (.cells (m.cells ev pv) 87)).heap.size = w.heap.size + 1 by simp] at hbk1
  have HB1 := Lib.hid hb1
  have HBk := Lib.hid (And.intro hbk0 hbk1)
  have HCk := Lib.hid (Dm.check (hm.below hb1))
  have HCps := Lib.hid fun V (hV : Below w.heap.size w V) => h.below hV
  have HMn := Lib.hid fun V (hV : Below w.heap.size w V) => hm.below hV
  have HAll := Lib.hid fun (hq : m.pages ≤ 1024) (V : World) (hV : Below w.heap.size w V) (hpb : V.heap[w.heap.size + 1]? = some (.cells #[.int .u32 0] 22 (0, 0))) => all (w := V) (a := a) (m := m) (ev := ev) (pv := pv) (pb := w.heap.size + 1) (noneE m.ext hx.length) (longE m.ext hx) 0 (fullE hp m 0)
    (fun U hU => none_any (h.below (below_th hV hU)) (hh.below (below_th hV hU)) hl (hm.below (below_th hV hU)) hok)
    (fun U hU => long_any (h.below (below_th hV hU)) (hh.below (below_th hV hU)) hl (hm.below (below_th hV hU)) hok)
    (fun U hU => busy_none (h.below (below_th hV hU)) m ev pv)
    (fun U hU => full (h.below (below_th hV hU)) ((hU.block _ (lt_of_block hpb)).trans hpb) hok.p0 hq (by omega) (by omega))
  have HOk := Lib.hid hok
  have HL := Lib.hid hl
  have HCm := Lib.hid hcm
  have HZ0 := Lib.hid (Below.refl w.heap.size w)
  have HF1 : Hid (∀ V, Gp.checkE m ≠ 0 → Below w.heap.size w V → GrPost w a hp hx m (.returned (.int .i64 2)) V) := Lib.hid fun V h1 h2 => .inl ⟨h1, rfl, h2⟩
  have HF2 : Hid (∀ V, Gp.checkE m = 0 → grE hp hx m ≠ 0 → Below w.heap.size w V → GrPost w a hp hx m (.returned (.int .i64 (grE hp hx m))) V) := Lib.hid fun V h1 h2 h3 => .inr (.inl ⟨h1, h2, rfl, h3⟩)
  have HF3 : Hid (∀ V gb ev pv, Gp.checkE m = 0 → grE hp hx m = 0 → Cps V { a with gb := gb, ev := ev, pv := pv } hp (some ⟨m, 0⟩) → Mod (fun k => k = a.mb) w V → (w.heap.size ≤ gb ∧ gb < V.heap.size) → (∀ k, ev.ownBlock = some k ∨ pv.ownBlock = some k → w.heap.size ≤ k ∧ k < V.heap.size ∧ k ≠ gb) → GrPost w a hp hx m (.returned (.int .i64 0)) V) := Lib.hid fun V gb ev pv h1 h2 h3 h4 h5 h6 => .inr (.inr ⟨h1, h2, rfl, gb, ev, pv, h3, h4, h5, h6⟩)
  generalize GrPost w a hp hx m = PQ at *
  have hge : grE hp hx m = firstE [noneE m.ext hx.length, longE m.ext hx, 0, fullE hp m 0] := rfl
  rw [← hge] at HAll
  have HGe := Lib.hid hge
  have HCell : Hid (∀ V, Below ((w.alloc (.cells (m.cells ev pv) 87)).alloc (.cells #[.int .u32 0] 22)).heap.size ((w.alloc (.cells (m.cells ev pv) 87)).alloc (.cells #[.int .u32 0] 22)) V → V.heap[w.heap.size]? = some (.cells (m.cells ev pv) 87) ∧ V.heap[w.heap.size + 1]? = some (.cells #[.int .u32 0] 22)) := Lib.hid fun V hV => ⟨(hV.block _ (lt_of_block HBk.out.1)).trans HBk.out.1, (hV.block _ (lt_of_block HBk.out.2)).trans HBk.out.2⟩
  obtain ⟨c0, c1, c2, c3, cf⟩ := man_cells hbk0
  unfold Mn.cells at *
  clear hb0 hb1 hbk0 hbk1 hcm h hh hm hok hl hge
  go_enter Tryz.func47, Tryz.ntmps47
  go_wp2_with fail
  refine HCk.out.mono ?_
  rintro e w2 ⟨rfl, hb2⟩
  obtain ⟨q0, q1⟩ := HCell.out _ hb2
  have HB2 := Lib.hid (below_th HB1.out hb2)
  have HG2 := Lib.hid hb2
  have HK2 := Lib.hid (And.intro q0 q1)
  clear c0 c1 c2 c3 cf hb2
  obtain ⟨c0, c1, c2, c3, cf⟩ := man_cells q0
  have c4 : w2.cell? ⟨w.heap.size + 1, 0, none⟩ = some (.int .u32 0) := by unfold World.cell?; rw [q1]; rfl
  clear q0 q1
  obtain ⟨ce, hce⟩ : ∃ ce, Gp.checkE m = ce := ⟨_, rfl⟩
  rw [hce]
  by_cases e0 : ce = 0
  case neg =>
    have hne : (ce != 0) = true := bne_iff_ne.2 e0
    have hend := HF1.out w2 (by rw [hce]; exact e0) HB2.out
    clear HF1 HF2 HF3 hce
    go_wp2
    first
      | exact hend
      | (go_ret; exact hend)
  subst e0
  have HCe := Lib.hid hce
  have hmay := may_num hce
  obtain ⟨x0, x1, x2⟩ := (HCps.out w2 HB2.out).cells
  have hlk := (HCps.out w2 HB2.out).look
  rw [if_neg (by simp)] at hlk
  have HMay := Lib.hid hmay
  clear hce hmay
  go_wp2_with fail
  refine (HAll.out HMay.out.2 _ HB2.out HK2.out.2).mono ?_
  rintro e w3 ⟨rfl, hb3⟩
  have HG3 := Lib.hid (below_th HG2.out hb3)
  have HB3 := Lib.hid (below_th HB2.out hb3)
  obtain ⟨ge, hge⟩ : ∃ ge, grE hp hx m = ge := ⟨_, rfl⟩
  rw [hge]
  clear hb3 c0 c1 c2 c3 cf c4 x0 x1 x2 hlk
  by_cases e0 : ge = 0
  case neg =>
    have hne : (ge != 0) = true := bne_iff_ne.2 e0
    have hend := HF2.out w3 HCe.out (by rw [hge]; exact e0) HB3.out
    rw [hge] at hend
    clear HF1 HF2 HF3 hge
    go_wp2
    first
      | exact hend
      | (go_ret; exact hend)
  subst e0
  have hel := ext_len HL.out HOk.out HCe.out (HGe.out.symm.trans hge)
  have HGz := Lib.hid hge
  clear hge
  obtain ⟨eo, ec, rfl⟩ := (HMn.out w HZ0.out).e.form
  obtain ⟨po, pc, rfl⟩ := (HMn.out w HZ0.out).p.form
  have HMay := Lib.hid (may_num HCe.out)
  have HC1 : Hid (Calls Tryz.prog 119 #[.slice eo m.ext.length ec] w3.drew fun e w' => ∃ v', e = .returned v' ∧ SlV w' 203 2 v' m.ext.length (extC m.ext) ∧ (∀ b, v'.ownBlock = some b → w3.drew.heap.size ≤ b ∧ b < w'.heap.size) ∧ Below w3.drew.heap.size w3.drew w') := Lib.hid (Cl.clone_ext (extC_length _) (slv_at (HMn.out _ HB3.out.drew).e) (by omega) (one_ext _))
  have HC2 : Hid (∀ V, Below w3.drew.heap.size w3.drew V → Calls Tryz.prog 120 #[.slice po m.ports.length pc] V fun e w' => ∃ v', e = .returned v' ∧ SlV w' 34 1 v' m.ports.length (m.ports.map (Value.int .u16)) ∧ (∀ b, v'.ownBlock = some b → V.heap.size ≤ b ∧ b < w'.heap.size) ∧ Below V.heap.size V w') := Lib.hid fun V hV => Cl.clone_u16 (by simp) (slv_at (HMn.out V (below_th HB3.out.drew hV)).p) (by have := HMay.out.1; omega) (one_u16 _)
  have HBd : Hid (∀ V, Below w3.drew.heap.size w3.drew V → V.heap[w.heap.size]? = some (.cells #[.int .u32 m.pages, .slice eo m.ext.length ec, .slice po m.ports.length pc, .bool m.con] 87) ∧ V.heap[w.heap.size + 1]? = some (.cells #[.int .u32 0] 22)) := Lib.hid fun V hV => HCell.out V (below_th HG3.out.drew hV)
  have HDB : Hid (∀ V, Below w3.drew.heap.size w3.drew V → V.cell? ⟨w.heap.size, 0, none⟩ = some (.int .u32 m.pages) ∧ V.cell? ⟨w.heap.size, 1, none⟩ = some (.slice eo m.ext.length ec) ∧ V.cell? ⟨w.heap.size, 2, none⟩ = some (.slice po m.ports.length pc) ∧ V.cell? ⟨w.heap.size, 3, none⟩ = some (.bool m.con) ∧ ∀ i, V.frozen? ⟨w.heap.size, i, none⟩ = false) := Lib.hid fun V hV => man_cells (m := m) (HBd.out V hV).1
  have HD := Lib.hid (HDB.out w3.drew (Below.refl _ _))
  have HBw : Hid (Below w.heap.size w w3.drew) := Lib.hid HB3.out.drew
  have HWl : Hid (w.heap.size < w3.drew.heap.size) := Lib.hid (lt_of_block (HBd.out _ (Below.refl _ _)).1)
  clear HG3 HG2 HK2 HB2 HB3 HBk HCk HAll HF1 HF2 HCell HB1 HZ0
  go_upto_region 11 with (fail)
  refine wp_region_E (fun w' => w'.cell? ⟨w.heap.size, 2, none⟩ = some (.slice po m.ports.length pc)) 9 (by kernel_rfl) ?_
  change AnyE _ _ _ _ _ _ _ _ _ w3.drew
  generalize hwd : w3.drew = wd at *
  refine L_take (i := 0) (v := ?_) rfl (by kernel_rfl) (by kernel_rfl) (by kernel_rfl) (by kernel_rfl) (fun _ _ _ h => h) (Or.inl ⟨by rfl, ?_⟩) HD.out.2.2.1 ?_
  rotate_left
  · intro W hW; obtain k2 := hW; go_simp; try with_reducible rfl
  try simp only [Act.put, List.getElem_toArray, List.getElem_cons_succ, List.getElem_cons_zero, List.setIfInBounds_toArray, List.set_cons_zero, List.set_cons_succ]
  refine L_take (i := 3) (v := ?_) rfl (by kernel_rfl) (by kernel_rfl) (by kernel_rfl) (by kernel_rfl) (fun _ _ _ h => h) (Or.inl ⟨by rfl, ?_⟩) HD.out.2.2.1 ?_
  rotate_left
  · intro W hW; obtain k2 := hW; go_simp; try with_reducible rfl
  try simp only [Act.put, List.getElem_toArray, List.getElem_cons_succ, List.getElem_cons_zero, List.setIfInBounds_toArray, List.set_cons_zero, List.set_cons_succ]
  refine L_take (i := 4) (v := ?_) rfl (by kernel_rfl) (by kernel_rfl) (by kernel_rfl) (by kernel_rfl) (fun _ _ _ h => h) (Or.inl ⟨by rfl, ?_⟩) HD.out.2.2.1 ?_
  rotate_left
  · intro W hW; obtain k2 := hW; go_simp; try with_reducible rfl
  try simp only [Act.put, List.getElem_toArray, List.getElem_cons_succ, List.getElem_cons_zero, List.setIfInBounds_toArray, List.set_cons_zero, List.set_cons_succ]
  refine L_step (i := 1) (by kernel_rfl) rfl (fun K hK => ?_)
  have d1 := HD.out.2.1
  go_simp
  refine hK.out _ _ (fun _ => HD.out.2.2.1) (fun _ => ?_)
  clear hK K
  try simp only [Act.put, List.getElem_toArray, List.getElem_cons_succ, List.getElem_cons_zero, List.setIfInBounds_toArray, List.set_cons_zero, List.set_cons_succ]
  refine L_step (i := 2) (by kernel_rfl) rfl (fun K hK => ?_)
  go_simp
  go_at_call 119
  refine HC1.out.mono ?_
  rintro e w4 ⟨v1, rfl, hs1, ho1, hb4⟩
  have H4 := Lib.hid (And.intro hs1 (And.intro ho1 hb4))
  have D4 := Lib.hid (HDB.out _ hb4)
  obtain ⟨o1, oc1, rfl⟩ := hs1.form
  clear hs1 ho1 hb4
  refine hK.out _ _ (fun _ => D4.out.2.2.1) (fun _ => ?_)
  clear hK K
  try simp only [Act.put, List.getElem_toArray, List.getElem_cons_succ, List.getElem_cons_zero, List.setIfInBounds_toArray, List.set_cons_zero, List.set_cons_succ]
  refine L_take (i := 6) (v := ?_) rfl (by kernel_rfl) (by kernel_rfl) (by kernel_rfl) (by kernel_rfl) (fun _ _ _ h => h) (Or.inl ⟨by rfl, ?_⟩) D4.out.2.2.1 ?_
  rotate_left
  · intro W hW; obtain k2 := hW; go_simp; try with_reducible rfl
  try simp only [Act.put, List.getElem_toArray, List.getElem_cons_succ, List.getElem_cons_zero, List.setIfInBounds_toArray, List.set_cons_zero, List.set_cons_succ]
  refine L_step (i := 5) (by kernel_rfl) rfl (fun K hK => ?_)
  go_simp
  go_at_call 120
  refine (HC2.out _ H4.out.2.2).mono ?_
  rintro e w5 ⟨v2, rfl, hs2, ho2, hb5⟩
  have H5 := Lib.hid (And.intro hs2 (And.intro ho2 hb5))
  have D5 := Lib.hid (HDB.out _ (below_th H4.out.2.2 hb5))
  obtain ⟨o2, oc2, rfl⟩ := hs2.form
  clear hs2 ho2 hb5
  refine hK.out _ _ (fun _ => D5.out.2.2.1) (fun _ => ?_)
  clear hK K
  try simp only [Act.put, List.getElem_toArray, List.getElem_cons_succ, List.getElem_cons_zero, List.setIfInBounds_toArray, List.set_cons_zero, List.set_cons_succ]
  have HT6 : Hid (∀ v, (w5.setCell ⟨w.heap.size, 1, none⟩ v).cell? ⟨w.heap.size, 2, none⟩ = some (.slice po m.ports.length pc)) := Lib.hid fun v => (World.cell?_setCell_other w5 ⟨w.heap.size, 1, none⟩ ⟨w.heap.size, 2, none⟩ v (by simp)).trans D5.out.2.2.1
  have HT7 : Hid (∀ v, (w5.setCell ⟨w.heap.size, 1, none⟩ v).frozen? ⟨w.heap.size, 2, none⟩ = false) := Lib.hid fun v => by rw [World.frozen?_setCell]; exact D5.out.2.2.2.2 2
  refine L_step (i := 7) (by kernel_rfl) rfl (fun K hK => ?_)
  have e1 := D5.out.2.1
  have e1f := D5.out.2.2.2.2 1
  go_simp
  refine hK.out _ _ (fun _ => (HT6.out _)) (fun _ => ?_)
  clear hK K
  try simp only [Act.put, List.getElem_toArray, List.getElem_cons_succ, List.getElem_cons_zero, List.setIfInBounds_toArray, List.set_cons_zero, List.set_cons_succ]
  refine L_take (i := 8) (v := ?_) rfl (by kernel_rfl) (by kernel_rfl) (by kernel_rfl) (by kernel_rfl) (fun _ _ _ h => h) (Or.inl ⟨by rfl, ?_⟩) (HT6.out _) ?_
  rotate_left
  · intro W hW; obtain k2 := hW; go_simp; try with_reducible rfl
  try simp only [Act.put, List.getElem_toArray, List.getElem_cons_succ, List.getElem_cons_zero, List.setIfInBounds_toArray, List.set_cons_zero, List.set_cons_succ]
  refine L_step (i := 9) (by kernel_rfl) rfl (fun K hK => ?_)
  have e2 := HT6.out (.slice o1 m.ext.length oc1)
  have e2f := HT7.out (.slice o1 m.ext.length oc1)
  go_simp
  refine hK.out _ _ (fun e => absurd rfl e) (fun _ => ?_)
  clear hK K
  try simp only [Act.put, List.getElem_toArray, List.getElem_cons_succ, List.getElem_cons_zero, List.setIfInBounds_toArray, List.set_cons_zero, List.set_cons_succ]
  refine E_done (by kernel_rfl) ?_ _
  have hb5 : Below wd.heap.size wd w5 := below_th H4.out.2.2 H5.out.2.2
  have hwl5 : w.heap.size < w5.heap.size := Nat.lt_of_lt_of_le HWl.out hb5.size
  have hbw5 : Below w.heap.size w w5 := below_th HBw.out hb5
  have hk5 := HBd.out w5 hb5
  have hm6 : Mod (fun i => i = w.heap.size) w5 ((w5.setCell ⟨w.heap.size, 1, none⟩ (.slice o1 m.ext.length oc1)).setCell ⟨w.heap.size, 2, none⟩ (.slice o2 m.ports.length oc2)) := Mod.setCell (F := fun i => i = w.heap.size) (Mod.setCell (F := fun i => i = w.heap.size) (Mod.refl _ _) ⟨w.heap.size, 1, none⟩ (.inl rfl) _) ⟨w.heap.size, 2, none⟩ (.inl rfl) _
  have hk6 := heap_setCell_same (w5.setCell ⟨w.heap.size, 1, none⟩ (.slice o1 m.ext.length oc1)) w.heap.size 2 _ _ (.slice o2 m.ports.length oc2) (heap_setCell_same w5 w.heap.size 1 _ _ (.slice o1 m.ext.length oc1) hk5.1)
  have hk6b := (hm6.block _ (lt_of_block hk5.2) (by omega)).trans hk5.2
  have hz6 : ((w5.setCell ⟨w.heap.size, 1, none⟩ (.slice o1 m.ext.length oc1)).setCell ⟨w.heap.size, 2, none⟩ (.slice o2 m.ports.length oc2)).heap.size = w5.heap.size := by simp [World.setCell]
  have hwd := HBw.out.size
  have hs1 := ((H4.out.1.below H5.out.2.2).mod hm6 fun k hk e => by have := (H4.out.2.1 k hk).1; have := HWl.out; omega)
  have hs2 := (H5.out.1.mod hm6 fun k hk e => by have := (H5.out.2.1 k hk).1; have := H4.out.2.2.size; have := HWl.out; omega)
  have ho1 : ∀ k, (Value.slice o1 m.ext.length oc1).ownBlock = some k → wd.heap.size ≤ k ∧ k < w5.heap.size := fun k hk => ⟨(H4.out.2.1 k hk).1, Nat.lt_of_lt_of_le (H4.out.2.1 k hk).2 H5.out.2.2.size⟩
  have ho2 : ∀ k, (Value.slice o2 m.ports.length oc2).ownBlock = some k → wd.heap.size ≤ k ∧ k < w5.heap.size := fun k hk => ⟨Nat.le_trans H4.out.2.2.size (H5.out.2.1 k hk).1, (H5.out.2.1 k hk).2⟩
  have hbw6 := Mod.below hbw5 hm6 hbw5.size fun k _ hk => Nat.le_of_eq hk.symm
  rw [← hz6] at ho1 ho2
  have hwl6 : wd.heap.size ≤ ((w5.setCell ⟨w.heap.size, 1, none⟩ (.slice o1 m.ext.length oc1)).setCell ⟨w.heap.size, 2, none⟩ (.slice o2 m.ports.length oc2)).heap.size := by rw [hz6]; exact hb5.size
  clear hz6 hm6 hk5 hb5 hwl5 hbw5 HT6 HT7 D5 D4 H4 H5 HC1 HC2 HD HDB HBd
  go_upto_region 12 with (fail)
  generalize (w5.setCell ⟨w.heap.size, 1, none⟩ (.slice o1 m.ext.length oc1)).setCell ⟨w.heap.size, 2, none⟩ (.slice o2 m.ports.length oc2) = w6 at *
  clear e1 e1f e2 e2f d1
  replace hk6 : w6.heap[w.heap.size]? = some (.cells #[.int .u32 m.pages, .slice o1 m.ext.length oc1, .slice o2 m.ports.length oc2, .bool m.con] 87) := hk6
  have HMn6 : Hid (MnAt w6 (.slice o1 m.ext.length oc1) (.slice o2 m.ports.length oc2) m) := Lib.hid ⟨hs1, hs2⟩
  have HO1 := Lib.hid ho1
  have HO2 := Lib.hid ho2
  have HB6 := Lib.hid hbw6
  have HW6 := Lib.hid hwl6
  have HH := Lib.hid hwd
  have HEd : Hid (∀ V, Below w6.drew.heap.size w6.drew V → (V.cell? ⟨w.heap.size, 0, none⟩ = some (.int .u32 m.pages) ∧ V.cell? ⟨w.heap.size, 1, none⟩ = some (.slice o1 m.ext.length oc1) ∧ V.cell? ⟨w.heap.size, 2, none⟩ = some (.slice o2 m.ports.length oc2) ∧ V.cell? ⟨w.heap.size, 3, none⟩ = some (.bool m.con)) ∧ V.cell? ⟨w.heap.size + 1, 0, none⟩ = some (.int .u32 0) ∧ V.cell? ⟨a.cb, 2, none⟩ = some (.map (some a.mb))) := Lib.hid fun V hV => by
    have h1 := (hV.block _ (show w.heap.size < w6.drew.heap.size from lt_of_block hk6)).trans hk6
    have h2 := (hV.block _ (show w.heap.size + 1 < w6.drew.heap.size from lt_of_block hk6b)).trans hk6b
    obtain ⟨g0, g1, g2, g3, _⟩ := man_cells (m := m) h1
    refine ⟨⟨g0, g1, g2, g3⟩, ?_, (HCps.out V (below_th HB6.out.drew hV)).cells.2.2⟩
    unfold World.cell?
    rw [h2]
    rfl
  have HE := Lib.hid (HEd.out w6.drew (Below.refl _ _))
  have HEA : Hid (∀ o, ((w6.drew.alloc o).cell? ⟨w.heap.size, 0, none⟩ = some (.int .u32 m.pages) ∧ (w6.drew.alloc o).cell? ⟨w.heap.size, 1, none⟩ = some (.slice o1 m.ext.length oc1) ∧ (w6.drew.alloc o).cell? ⟨w.heap.size, 2, none⟩ = some (.slice o2 m.ports.length oc2) ∧ (w6.drew.alloc o).cell? ⟨w.heap.size, 3, none⟩ = some (.bool m.con)) ∧ (w6.drew.alloc o).cell? ⟨w.heap.size + 1, 0, none⟩ = some (.int .u32 0) ∧ (w6.drew.alloc o).cell? ⟨a.cb, 2, none⟩ = some (.map (some a.mb))) := Lib.hid fun o => HEd.out _ ((Below.refl _ _).alloc (Nat.le_refl _) o)
  have hb7 : Below w6.drew.heap.size w6.drew (w6.drew.alloc (.cells #[.int .u32 m.pages, .slice o1 m.ext.length oc1, .slice o2 m.ports.length oc2, .bool m.con, .int .u32 0, .int .u32 0] 206)) := (Below.refl _ _).alloc (Nat.le_refl _) _
  have hbw7 := below_th HB6.out.drew hb7
  have hmbl : a.mb < w.heap.size := (HCps.out w (Below.refl _ _)).lt (.inr (.inl rfl))
  have hd6 : w6.drew.heap.size = w6.heap.size := rfl
  obtain ⟨w8, hrun, hc8, hm8⟩ := Cps.insert (HCps.out _ hbw7) (m := m) (gb := w6.drew.heap.size) (heap_alloc_new w6.drew (.cells #[.int .u32 m.pages, .slice o1 m.ext.length oc1, .slice o2 m.ports.length oc2, .bool m.con, .int .u32 0, .int .u32 0] 206)) ((HMn6.out.below (Below.refl _ _).drew).below hb7) HOk.out (by omega) (fun e => by have := (HO1.out _ e).1; omega) (fun e => by have := (HO2.out _ e).1; omega) HCm.out
  have hz7 : (w6.drew.alloc (.cells #[.int .u32 m.pages, .slice o1 m.ext.length oc1, .slice o2 m.ports.length oc2, .bool m.con, .int .u32 0, .int .u32 0] 206)).heap.size = w6.heap.size + 1 := by simp
  have hz8 := hm8.size
  have hm9 : Mod (fun k => k = a.mb) w w8 := (Mod.of_below hbw7 _).trans hm8 fun _ _ g => .inl g
  have hend := HF3.out w8 w6.drew.heap.size (.slice o1 m.ext.length oc1) (.slice o2 m.ports.length oc2) HCe.out HGz.out hc8 hm9 ⟨by omega, by omega⟩ (fun k hk => by
    rcases hk with hk | hk
    · have := HO1.out k hk; omega
    · have := HO2.out k hk; omega)
  have HRun := Lib.hid hrun
  have HEnd := Lib.hid hend
  clear hb7 hbw7 hmbl hd6 hrun hc8 hm8 hz7 hz8 hm9 hend HF3 HO1 HO2 HB6 HW6 HH HMn6 HEd hk6 hk6b hs1 hs2 ho1 ho2 hbw6 hwl6 hwd
  refine wp_region_E (fun w' => (w'.cell? ⟨w.heap.size, 0, none⟩ = some (.int .u32 m.pages) ∧ w'.cell? ⟨w.heap.size, 1, none⟩ = some (.slice o1 m.ext.length oc1) ∧ w'.cell? ⟨w.heap.size, 2, none⟩ = some (.slice o2 m.ports.length oc2) ∧ w'.cell? ⟨w.heap.size, 3, none⟩ = some (.bool m.con)) ∧ w'.cell? ⟨w.heap.size + 1, 0, none⟩ = some (.int .u32 0) ∧ w'.cell? ⟨a.cb, 2, none⟩ = some (.map (some a.mb))) 9 (by kernel_rfl) ?_
  change AnyE _ _ _ _ _ _ _ _ _ w6.drew
  generalize hwe : w6.drew = we at *
  refine L_take (i := 0) (v := ?_) rfl (by kernel_rfl) (by kernel_rfl) (by kernel_rfl) (by kernel_rfl) (fun _ _ _ h => h) (Or.inl ⟨by rfl, ?_⟩) HE.out ?_
  rotate_left
  · intro W hW; obtain ⟨⟨k0, k1, k2, k3⟩, k4, k5⟩ := hW; go_simp; try with_reducible rfl
  try simp only [Act.put, List.getElem_toArray, List.getElem_cons_succ, List.getElem_cons_zero, List.setIfInBounds_toArray, List.set_cons_zero, List.set_cons_succ]
  refine L_take (i := 1) (v := ?_) rfl (by kernel_rfl) (by kernel_rfl) (by kernel_rfl) (by kernel_rfl) (fun _ _ _ h => h) (Or.inl ⟨by rfl, ?_⟩) HE.out ?_
  rotate_left
  · intro W hW; obtain ⟨⟨k0, k1, k2, k3⟩, k4, k5⟩ := hW; go_simp; try with_reducible rfl
  try simp only [Act.put, List.getElem_toArray, List.getElem_cons_succ, List.getElem_cons_zero, List.setIfInBounds_toArray, List.set_cons_zero, List.set_cons_succ]
  refine L_take (i := 2) (v := ?_) rfl (by kernel_rfl) (by kernel_rfl) (by kernel_rfl) (by kernel_rfl) (fun _ _ _ h => h) (Or.inl ⟨by rfl, ?_⟩) HE.out ?_
  rotate_left
  · intro W hW; obtain ⟨⟨k0, k1, k2, k3⟩, k4, k5⟩ := hW; go_simp; try with_reducible rfl
  try simp only [Act.put, List.getElem_toArray, List.getElem_cons_succ, List.getElem_cons_zero, List.setIfInBounds_toArray, List.set_cons_zero, List.set_cons_succ]
  refine L_take (i := 3) (v := ?_) rfl (by kernel_rfl) (by kernel_rfl) (by kernel_rfl) (by kernel_rfl) (fun _ _ _ h => h) (Or.inl ⟨by rfl, ?_⟩) HE.out ?_
  rotate_left
  · intro W hW; obtain ⟨⟨k0, k1, k2, k3⟩, k4, k5⟩ := hW; go_simp; try with_reducible rfl
  try simp only [Act.put, List.getElem_toArray, List.getElem_cons_succ, List.getElem_cons_zero, List.setIfInBounds_toArray, List.set_cons_zero, List.set_cons_succ]
  refine L_take (i := 4) (v := ?_) rfl (by kernel_rfl) (by kernel_rfl) (by kernel_rfl) (by kernel_rfl) (fun _ _ _ h => h) (Or.inl ⟨by rfl, ?_⟩) HE.out ?_
  rotate_left
  · intro W hW; obtain ⟨⟨k0, k1, k2, k3⟩, k4, k5⟩ := hW; go_simp; try with_reducible rfl
  try simp only [Act.put, List.getElem_toArray, List.getElem_cons_succ, List.getElem_cons_zero, List.setIfInBounds_toArray, List.set_cons_zero, List.set_cons_succ]
  refine L_take (i := 5) (v := ?_) rfl (by kernel_rfl) (by kernel_rfl) (by kernel_rfl) (by kernel_rfl) (fun _ _ _ h => h) (Or.inl ⟨by rfl, ?_⟩) HE.out ?_
  rotate_left
  · intro W hW; obtain ⟨⟨k0, k1, k2, k3⟩, k4, k5⟩ := hW; go_simp; try with_reducible rfl
  try simp only [Act.put, List.getElem_toArray, List.getElem_cons_succ, List.getElem_cons_zero, List.setIfInBounds_toArray, List.set_cons_zero, List.set_cons_succ]
  refine L_take (i := 6) (v := ?_) rfl (by kernel_rfl) (by kernel_rfl) (by kernel_rfl) (by kernel_rfl) (fun _ _ _ h => h) (Or.inl ⟨by rfl, ?_⟩) HE.out ?_
  rotate_left
  · intro W hW; obtain ⟨⟨k0, k1, k2, k3⟩, k4, k5⟩ := hW; go_simp; try with_reducible rfl
  try simp only [Act.put, List.getElem_toArray, List.getElem_cons_succ, List.getElem_cons_zero, List.setIfInBounds_toArray, List.set_cons_zero, List.set_cons_succ]
  refine L_take (i := 7) (v := ?_) rfl (by kernel_rfl) (by kernel_rfl) (by kernel_rfl) (by kernel_rfl) (fun _ _ _ h => h) (Or.inl ⟨by rfl, ?_⟩) HE.out ?_
  rotate_left
  · intro W hW; obtain ⟨⟨k0, k1, k2, k3⟩, k4, k5⟩ := hW; go_simp; try with_reducible rfl
  try simp only [Act.put, List.getElem_toArray, List.getElem_cons_succ, List.getElem_cons_zero, List.setIfInBounds_toArray, List.set_cons_zero, List.set_cons_succ]
  refine L_step (i := 8) (by kernel_rfl) rfl (fun K hK => ?_)
  go_simp
  refine hK.out _ _ (fun _ => (HEA.out _)) (fun _ => ?_)
  clear hK K
  try simp only [Act.put, List.getElem_toArray, List.getElem_cons_succ, List.getElem_cons_zero, List.setIfInBounds_toArray, List.set_cons_zero, List.set_cons_succ]
  refine L_step (i := 9) (by kernel_rfl) rfl (fun K hK => ?_)
  have hrun := HRun.out
  go_simp
  refine hK.out _ _ (fun e => absurd rfl e) (fun _ => ?_)
  clear hK K
  try simp only [Act.put, List.getElem_toArray, List.getElem_cons_succ, List.getElem_cons_zero, List.setIfInBounds_toArray, List.set_cons_zero, List.set_cons_succ]
  refine E_done (by kernel_rfl) ?_ _
  clear hrun
  go_wp2
  first
    | exact HEnd.out
    | (go_ret; exact HEnd.out)
end Ca
end Go.Proofs.YtkbhokmnbpnlbaaGreat
/- A grant comes into a kernel. -/
namespace Go.Proofs.YtkbhokmnbpnlbaaGreat
open Go.RowKit
set_option linter.unusedVariables false
set_option linter.unusedSimpArgs false
theorem KStep.grant {w w' : World} {a : KAt} {K : Kn} (h : Knl w a K) {m : Mn} {gb : Nat} {ev pv : Value} (hc : Cps w' { a.c with gb := gb, ev := ev, pv := pv } K.hp (some ⟨m, 0⟩)) (hm : Mod (fun k => k = a.c.mb) w w') (hg : w.heap.size ≤ gb ∧ gb < w'.heap.size) (hv : ∀ k, ev.ownBlock = some k ∨ pv.ownBlock = some k → w.heap.size ≤ k ∧ k < w'.heap.size ∧ k ≠ gb) :
    ∃ a', KStep w w' a K a' { K with g := some ⟨m, 0⟩ } := by
  have hz := hm.size
  have hmb : a.tag a.c.mb = 2 := h.t2 _ (.inr (.inl rfl))
  have ne : ∀ k, a.tag k ≠ 2 → ¬ k = a.c.mb := fun k hk e => hk (e ▸ hmb)
  obtain ⟨T, hT⟩ : ∃ T : Nat → Nat, T = fun k => if k < w.heap.size then a.tag k else if k = gb then 2 else if k < w'.heap.size then 5 else 0 := ⟨_, rfl⟩
  have To : ∀ k, k < w.heap.size → T k = a.tag k := fun k hk => by rw [hT]; exact if_pos hk
  have Ta : ∀ k, a.tag k ≠ 0 → T k = a.tag k := fun k hk => To k (h.lt k hk)
  have Tg : T gb = 2 := by
    rw [hT]
    show (if gb < w.heap.size then _ else _) = 2
    rw [if_neg (by omega), if_pos rfl]
  have Tv : ∀ k, ev.ownBlock = some k ∨ pv.ownBlock = some k → T k = 5 := fun k hk => by
    have := hv k hk
    rw [hT]
    show (if k < w.heap.size then _ else _) = 5
    rw [if_neg (by omega), if_neg (by omega), if_pos this.2.1]
  refine ⟨{ a with c := { a.c with gb := gb, ev := ev, pv := pv }, tag := T }, ?_⟩
  exact ⟨{ head := (hm.block _ (lt_of_block h.head) (ne _ (by rw [h.t1]; decide))).trans h.head
           hx := SlV.mod h.hx hm fun k hk => ne k (by rw [h.t5 k (.inl hk)]; decide)
           chx := SlV.mod h.chx hm fun k hk => ne k (by rw [h.t5 k (.inr (.inl hk))]; decide)
           caps := hc
           nic := KStep.nic_fit (h.nic.keep hm fun k (hk : a.tag k = 3) => ne k (by rw [hk]; decide)) fun k (hk : a.tag k = 3) _ => (Ta k (by rw [hk]; decide)).trans hk
           len := h.len
           outer := h.outer.mod hm fun k hk => ne k (by rw [h.t4 k hk]; decide)
           inner := fun i v l hv hl => (h.inner i v l hv hl).mod hm fun k hk => ne k (by rw [h.t6 i v k hv hk]; omega)
           ok := ⟨h.ok.n0, h.ok.n1, h.ok.bs, h.ok.q, h.ok.hl, h.ok.g0⟩
           t1 := (Ta _ (by rw [h.t1]; decide)).trans h.t1
           t2 := fun k hk => by
             rcases hk with e | e | e
             · have := h.t2 k (.inl e)
               exact (Ta k (by rw [this]; decide)).trans this
             · have := h.t2 k (.inr (.inl e))
               exact (Ta k (by rw [this]; decide)).trans this
             · have e : k = gb := e
               rw [e]; exact Tg
           t4 := fun k hk => (Ta k (by rw [h.t4 k hk]; decide)).trans (h.t4 k hk)
           t5 := fun k hk => by
             rcases hk with e | e | e
             · have := h.t5 k (.inl e)
               exact (Ta k (by rw [this]; decide)).trans this
             · have := h.t5 k (.inr (.inl e))
               exact (Ta k (by rw [this]; decide)).trans this
             · exact Tv k e
           t6 := fun i v k hv hk => (Ta k (by rw [h.t6 i v k hv hk]; omega)).trans (h.t6 i v k hv hk)
           lt := fun k hk => by
             have hk : T k ≠ 0 := hk
             rcases Nat.lt_or_ge k w.heap.size with g | g
             · omega
             · rw [hT] at hk
               have hk : (if k < w.heap.size then a.tag k else if k = gb then 2 else if k < w'.heap.size then 5 else 0) ≠ 0 := hk
               rw [if_neg (by omega)] at hk
               split at hk
               · omega
               · split at hk
                 · assumption
                 · exact absurd rfl hk }, ⟨rfl, rfl, rfl⟩, hm.mono fun i _ g => by subst g; exact ⟨by rw [hmb]; decide, by rw [hmb]; decide⟩, To⟩
/-- What comes of a grant to a kernel that has granted nothing. -/
def KGrPost (w : World) (a : KAt) (K : Kn) (m : Mn) (e : Ending) (w' : World) : Prop :=
  (Gp.checkE m ≠ 0 ∧ e = .returned (.int .i64 2) ∧ Below w.heap.size w w') ∨
  (Gp.checkE m = 0 ∧ Ca.grE K.hp K.hx m ≠ 0 ∧ e = .returned (.int .i64 (Ca.grE K.hp K.hx m)) ∧ Below w.heap.size w w') ∨
  (Gp.checkE m = 0 ∧ Ca.grE K.hp K.hx m = 0 ∧ e = .returned (.int .i64 0) ∧ ∃ a', KStep w w' a K a' { K with g := some ⟨m, 0⟩ })
theorem Kl.grant {w : World} {a : KAt} {K : Kn} (h : Knl w a K) (hg : K.g = none) (hl : K.hx.length ≤ 16) {m : Mn} {ev pv : Value} (hm : MnAt w ev pv m) (hok : m.ok) :
    Calls Tryz.prog 47 #[.pointer (some ⟨a.c.cb, 0, none⟩), .int .i64 1, .agg (m.cells ev pv), .int .u32 0] w (KGrPost w a K m) := by
  have hc := h.caps
  rw [hg] at hc
  refine (Ca.grant hc h.chx hl hm hok).mono ?_
  rintro e w' (g | g | ⟨g1, g2, g3, gb, ev, pv, g4, g5, g6, g7⟩)
  · exact .inl g
  · exact .inr (.inl g)
  · exact .inr (.inr ⟨g1, g2, g3, KStep.grant h g4 g5 g6 g7⟩)
end Go.Proofs.YtkbhokmnbpnlbaaGreat
