/- The library's sort at rows of uint32: the row in memory; cmp.Less; insertionSortOrdered; reverseRangeOrdered. The plain functions and their laws are the kit's (Derived.Sort). -/
import Derived.Test.YtldmglodjafklaaProg
import Derived.Test.YtldmglodjafklaaMod
import Derived.Sort.Row
import Derived.Sort.LotA
import Derived.Sort.LotB
import Derived.Sort.LotC
import Derived.Sort.LotD3
import Derived.BigGuard
import Derived.BigCall
import Derived.CellFam
import Derived.Deep.Draws
import Derived.Deep.QuietTactic
import Derived.BigQuiet
import Derived.RegionTactic
import Derived.LoopTactic
namespace Go.Proofs.Ytldmglodjafklaa.Srt
open Go.RowKit Go.Sort
set_option linter.unusedVariables false
/-- The row d of uint32 stands at block blk from off on; since W0 that block alone has turned. -/
structure SW (W0 w : World) (blk off : Nat) (e : TypeId) (N : Nat) (d : Array Int) : Prop where
  mod : Mod (fun k => k = blk) W0 w
  row : ∃ cur, w.heap[blk]? = some (.cells cur e (0, 0)) ∧ cur.size = N ∧ ∀ j, j < d.size → cur[off + j]? = some (.int .u32 d[j]!)
section
variable {W0 w : World} {blk off : Nat} {e : TypeId} {N : Nat} {d : Array Int}
theorem SW.cells (h : SW W0 w blk off e N d) (t : Nat) (ht : t < d.size) : w.cell? ⟨blk, off + t, none⟩ = some (.int .u32 d[t]!) := by
  obtain ⟨cur, hb, _, hc⟩ := h.row
  unfold World.cell?
  rw [hb]
  simpa using hc t ht
theorem SW.free (h : SW W0 w blk off e N d) (x : Nat) : w.frozen? ⟨blk, x, none⟩ = false := by
  obtain ⟨cur, hb, _, hc⟩ := h.row
  unfold World.frozen?
  rw [hb]
  simp
theorem SW.lt (h : SW W0 w blk off e N d) : blk < w.heap.size := by
  obtain ⟨cur, hb, _, _⟩ := h.row
  exact (Array.getElem?_eq_some_iff.1 hb).1
theorem SW.drewN (h : SW W0 w blk off e N d) (n : Nat) : SW W0 (w.drewN n) blk off e N d := ⟨⟨h.mod.os, h.mod.tape, h.mod.output, h.mod.size, h.mod.block⟩, h.row⟩
theorem SW.drew (h : SW W0 w blk off e N d) : SW W0 w.drew blk off e N d := ⟨h.mod.drew, h.row⟩
theorem SW.set (h : SW W0 w blk off e N d) (j : Nat) (hj : j < d.size) (x : Int) : SW W0 (w.setCell ⟨blk, off + j, none⟩ (.int .u32 x)) blk off e N (d.setIfInBounds j x) := by
  obtain ⟨cur, hb, hs, hc⟩ := h.row
  refine ⟨h.mod.setCell _ (.inl rfl) _, _, heap_setCell_same w blk (off + j) cur e _ hb, by simpa using hs, fun t ht => ?_⟩
  rw [Array.size_setIfInBounds] at ht
  rw [Array.getElem?_setIfInBounds]
  by_cases g : off + j = off + t
  · obtain rfl : j = t := by omega
    have := (Array.getElem?_eq_some_iff.1 (hc j hj)).1
    rw [if_pos rfl, if_pos this, getElem!_set_same d j x hj]
  · rw [if_neg g, hc t ht, getElem!_set_other d j t x (by omega)]
theorem SW.swap (h : SW W0 w blk off e N d) (i j : Nat) (hi : i < d.size) (hj : j < d.size) : SW W0 ((w.setCell ⟨blk, off + i, none⟩ (.int .u32 d[j]!)).setCell ⟨blk, off + j, none⟩ (.int .u32 d[i]!)) blk off e N (swp d i j) :=
  (h.set i hi _).set j (by simpa using hj) _
theorem SW.below {w' : World} (h : SW W0 w blk off e N d) (hb : Below w.heap.size w w') : SW W0 w' blk off e N d := by
  obtain ⟨cur, hk, hs, hc⟩ := h.row
  exact ⟨h.mod.same (Mod.of_below hb _), cur, (hb.block _ h.lt).trans hk, hs, hc⟩
end
theorem isNaN (x : Int) (w : World) : Calls Try.prog 121 #[.int .u32 x] w fun e w' => e = .returned (.bool false) ∧ w = w' := by
  go_enter Try.func121, Try.ntmps121
  go_wp2
  go_ret
  exact ⟨by simp, rfl⟩
theorem less (x y : Int) (w : World) : Calls Try.prog 107 #[.int .u32 x, .int .u32 y] w fun e w' => e = .returned (.bool (ltInt x y)) ∧ w' = w := by
  go_enter Try.func107, Try.ntmps107
  go_wp2_with (go_at_call 121; (with_reducible refine (isNaN _ _).mono ?_); rintro e w' ⟨rfl, rfl⟩)
  go_ret
  exact ⟨rfl, rfl⟩
/-! ### the plain functions, a round at a time -/
section
variable (lt : Int → Int → Bool)
theorem inn_go (a j : Nat) (d : Array Int) (h : a < j) (hl : lt d[j]! d[j - 1]! = true) : insInner lt a j d = insInner lt a (j - 1) (swp d j (j - 1)) := by
  cases j with
  | zero => omega
  | succ k =>
    have hl' : lt d[k + 1]! d[k]! = true := hl
    rw [insInner, if_pos (by rw [hl', Bool.and_true]; exact decide_eq_true h)]
    rfl
theorem inn_stop (a j : Nat) (d : Array Int) (h : j ≤ a ∨ lt d[j]! d[j - 1]! = false) : insInner lt a j d = d := by
  cases j with
  | zero => rfl
  | succ k =>
    rw [insInner, if_neg]
    rw [Bool.and_eq_true, decide_eq_true_eq]
    rintro ⟨h1, h2⟩
    rcases h with h | h
    · omega
    · rw [show d[k + 1 - 1]! = d[k]! from rfl, h2] at h; cases h
theorem out_go (a b i : Nat) (d : Array Int) (h : i < b) : insOuter lt a b i d = insOuter lt a b (i + 1) (insInner lt a i d) := by rw [insOuter, if_pos h]
theorem out_stop (a b i : Nat) (d : Array Int) (h : b ≤ i) : insOuter lt a b i d = d := by rw [insOuter, if_neg (by omega)]
theorem rev_go (i j : Nat) (d : Array Int) (h : i < j) : reverseLoop i j d = reverseLoop (i + 1) (j - 1) (swp d i j) := by rw [reverseLoop, if_pos h]
theorem rev_stop (i j : Nat) (d : Array Int) (h : ¬ i < j) : reverseLoop i j d = d := by rw [reverseLoop, if_neg h]
end
def insRel (W0 : World) (blk off : Nat) (e : TypeId) (N : Nat) (d : Array Int) (a b : Nat) (vi : Value) (wr : World) : Prop :=
  ∃ (i : Nat) (dk : Array Int), vi = .int .i64 i ∧ a < i ∧ i ≤ b + 1 ∧ dk.size = d.size ∧ SW W0 wr blk off e N dk ∧ insOuter ltInt a b i dk = insOuter ltInt a b (a + 1) d
def innRel (W0 : World) (blk off : Nat) (e : TypeId) (N : Nat) (d dk : Array Int) (a i : Nat) (vj : Value) (wr : World) : Prop :=
  ∃ (j : Nat) (dj : Array Int), vj = .int .i64 j ∧ a ≤ j ∧ j ≤ i ∧ dj.size = d.size ∧ SW W0 wr blk off e N dj ∧ insInner ltInt a j dj = insInner ltInt a i dk
set_option maxRecDepth 100000 in
set_option maxHeartbeats 1000000 in
theorem insertionSort {W0 w : World} {blk off : Nat} {e : TypeId} {N : Nat} {d : Array Int} (h : SW W0 w blk off e N d) (cap a b : Nat) (hab : a ≤ b) (hb : b ≤ d.size) (hsz : d.size < 4611686018427387904) :
    Calls Try.prog 101 #[.slice (some ⟨blk, off, none⟩) d.size cap, .int .i64 a, .int .i64 b] w fun x w' => x = .returned (.tuple #[]) ∧ SW W0 w' blk off e N (Sort.insertionSort ltInt d a b) := by
  have H := Lib.hid h
  clear h
  generalize hn : d.size = n at *
  have Hn := Lib.hid hn
  clear hn
  go_enter Try.func101, Try.ntmps101
  go_wp2
  go_loopw [6, 7] (fun vi _ wr => insRel W0 blk off e N d a b vi wr) (fun vi _ _ => b + 1 - (intOf vi).toNat)
  case atStart => exact ⟨a + 1, d, by go_num, by omega, by omega, rfl, H.out, rfl⟩
  case round =>
    obtain ⟨i, dk, rfl, hai, hib, hsk, hsw, hO⟩ := hrel
    have HO := Lib.hid hO
    have HS := Lib.hid hsw
    have Hsk := Lib.hid hsk
    clear hO hsw hsk
    by_cases hlt : i < b
    · go_wp2
      rename World => W1
      go_loopw [7] (fun vj wr => innRel W0 blk off e N d dk a i vj wr) (fun vj _ => (intOf vj).toNat)
      case atStart => exact ⟨i, dk, rfl, by omega, Nat.le_refl _, Hsk.out, HS.out, rfl⟩
      case round =>
        obtain ⟨j, dj, rfl, haj, hji, hsj, hs2, hI⟩ := hrel
        have hsj2 := hsj.trans Hn.out
        obtain ⟨G, hG⟩ : ∃ G : Nat → Int, ∀ t, G t = dj[t]! := ⟨fun t => dj[t]!, fun _ => rfl⟩
        have hcw : ∀ t, t < n → wr.cell? ⟨blk, off + t, none⟩ = some (.int .u32 (G t)) := fun t ht => by rw [hG]; exact hs2.cells t (by omega)
        have hfw : ∀ t, t < n → wr.frozen? ⟨blk, off + t, none⟩ = false := fun t ht => hs2.free _
        have HG := Lib.hid hG
        have HI := Lib.hid hI
        have HS2 := Lib.hid hs2
        have Hsj := Lib.hid hsj
        have Hsj2 := Lib.hid hsj2
        have done : Hid ((j ≤ a ∨ ltInt dj[j]! dj[j - 1]! = false) → ∀ q, insRel W0 blk off e N d a b (.int .i64 ((i : Int) + 1)) (wr.drewN q)) := Lib.hid fun hs q =>
          ⟨i + 1, dj, by go_num, by omega, by omega, Hsj.out, HS2.out.drewN q, by rw [← HO.out, out_go _ _ _ _ _ hlt, ← HI.out, inn_stop _ _ _ _ hs]⟩
        clear hG hI hs2 hsj hsj2
        by_cases hja : a < j
        · go_wp2_with fail
          go_quiet ((go_at_call 107; exact Calls.quiet_of_same (less _ _ _)))
          go_wp2
          · have hl : ltInt (G j) (G (j - 1)) = true := by assumption
            go_region
            all_goals go_wp2
            go_roundw
            case rel =>
              refine ⟨j - 1, swp dj j (j - 1), by congr 1; omega, by omega, by omega, by rw [size_swp]; exact Hsj.out, ?_, ?_⟩
              · rw [HG.out, HG.out]
                have := ((HS2.out.drewN (nq + 1)).swap j (j - 1) (by rw [Hsj2.out]; omega) (by rw [Hsj2.out]; omega))
                exact this
              · rw [← HI.out, inn_go ltInt a j dj hja (by rw [← HG.out, ← HG.out]; exact hl)]
            case measure => simp [intOf]; omega
          · have hl : ltInt (G j) (G (j - 1)) = false := by assumption
            go_roundw
            case rel => exact done.out (.inr (by rw [← HG.out, ← HG.out]; exact hl)) nq
            case measure => simp [intOf]; omega
        · have hja2 : decide ((a : Int) < (j : Int)) = false := by simpa using hja
          go_wp2_with fail
          go_quiet ((go_at_call 107; exact Calls.quiet_of_same (less _ _ _)))
          go_wp2
          go_roundw
          case rel => exact done.out (.inl (by omega)) nq
          case measure => simp [intOf]; omega
    · go_wp2
      go_end0
      exact ⟨rfl, by unfold Sort.insertionSort; rw [← HO.out, out_stop _ _ _ _ _ (by omega)]; exact HS.out⟩
def revRel (W0 : World) (blk off : Nat) (e : TypeId) (N : Nat) (d : Array Int) (a b : Nat) (vi vj : Value) (wr : World) : Prop :=
  ∃ (i j : Nat) (dk : Array Int), vi = .int .i64 i ∧ vj = .int .i64 j ∧ a ≤ i ∧ j < b ∧ dk.size = d.size ∧ SW W0 wr blk off e N dk ∧ reverseLoop i j dk = reverseLoop a (b - 1) d
set_option maxRecDepth 100000 in
theorem reverseRange {W0 w : World} {blk off : Nat} {e : TypeId} {N : Nat} {d : Array Int} (h : SW W0 w blk off e N d) (cap a b : Nat) (hab : a < b) (hb : b ≤ d.size) (hsz : d.size < 4611686018427387904) :
    Calls Try.prog 105 #[.slice (some ⟨blk, off, none⟩) d.size cap, .int .i64 a, .int .i64 b] w fun x w' => x = .returned (.tuple #[]) ∧ SW W0 w' blk off e N (Sort.reverseRange d a b) := by
  have H := Lib.hid h
  clear h
  generalize hn : d.size = n at *
  have Hn := Lib.hid hn
  clear hn
  go_enter Try.func105, Try.ntmps105
  go_wp2
  go_loopw [6, 7] (fun vi vj wr => revRel W0 blk off e N d a b vi vj wr) (fun vi vj _ => (intOf vj).toNat - (intOf vi).toNat)
  case atStart => exact ⟨a, b - 1, d, by go_num, by go_num, by omega, by omega, rfl, H.out, rfl⟩
  case round =>
    obtain ⟨i, j, dk, rfl, rfl, hai, hjb, hsk, hsw, hO⟩ := hrel
    have hsk2 := hsk.trans Hn.out
    obtain ⟨G, hG⟩ : ∃ G : Nat → Int, ∀ t, G t = dk[t]! := ⟨fun t => dk[t]!, fun _ => rfl⟩
    have hcw : ∀ t, t < n → wr.cell? ⟨blk, off + t, none⟩ = some (.int .u32 (G t)) := fun t ht => by rw [hG]; exact hsw.cells t (by omega)
    have hfw : ∀ t, t < n → wr.frozen? ⟨blk, off + t, none⟩ = false := fun t ht => hsw.free _
    have HG := Lib.hid hG
    have HO := Lib.hid hO
    have HS := Lib.hid hsw
    have Hsk := Lib.hid hsk
    have Hsk2 := Lib.hid hsk2
    clear hO hsw hsk hG hsk2
    by_cases hlt : i < j
    · go_wp2
      go_region
      all_goals go_wp2
      go_roundw
      case rel =>
        refine ⟨i + 1, j - 1, swp dk i j, by go_num, by go_num, by omega, by omega, by rw [size_swp]; exact Hsk.out, ?_, ?_⟩
        · rw [HG.out, HG.out]
          have := ((HS.out.drewN 1).swap i j (by rw [Hsk2.out]; omega) (by rw [Hsk2.out]; omega))
          exact this
        · rw [← HO.out, rev_go i j dk hlt]
      case measure => simp [intOf]; omega
    · go_wp2
      go_end0
      exact ⟨rfl, by unfold Sort.reverseRange; rw [← HO.out, rev_stop _ _ _ hlt]; exact HS.out⟩
end Go.Proofs.Ytldmglodjafklaa.Srt
