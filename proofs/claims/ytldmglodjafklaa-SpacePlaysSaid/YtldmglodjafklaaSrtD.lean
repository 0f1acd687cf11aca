/- The library's sort at rows of uint32: partitionEqualOrdered, partitionOrdered. (Printed by gen/srtpart.py.) -/
import Derived.Test.YtldmglodjafklaaSrtA
namespace Go.Proofs.Ytldmglodjafklaa.Srt
open Go.RowKit Go.Sort
set_option linter.unusedVariables false
section
variable (p : Int → Bool) (d : Array Int)
theorem su_go (j i : Nat) (h : i ≤ j) (hp : p d[i]! = true) : scanUp p d j i = scanUp p d j (i + 1) := by rw [scanUp, if_pos (by rw [hp, Bool.and_true]; exact decide_eq_true h)]
theorem su_end (j i : Nat) (h : ¬ i ≤ j ∨ p d[i]! = false) : scanUp p d j i = i := by
  rw [scanUp, if_neg]
  rw [Bool.and_eq_true, decide_eq_true_eq]
  rintro ⟨h1, h2⟩
  rcases h with h | h
  · exact h h1
  · rw [h] at h2; cases h2
theorem sn_go (i j : Nat) (h : i ≤ j) (h0 : 0 < j) (hp : p d[j]! = true) : scanDown p d i j = scanDown p d i (j - 1) := by
  cases j with
  | zero => omega
  | succ k => rw [scanDown, if_pos (by rw [hp, Bool.and_true]; exact decide_eq_true h)]; rfl
theorem sn_end (i j : Nat) (h : ¬ i ≤ j ∨ p d[j]! = false) : scanDown p d i j = j := by
  cases j with
  | zero => rfl
  | succ k =>
    rw [scanDown, if_neg]
    rw [Bool.and_eq_true, decide_eq_true_eq]
    rintro ⟨h1, h2⟩
    rcases h with h | h
    · exact h h1
    · rw [h] at h2; cases h2
end
theorem pe_break (a i j i2 j2 : Nat) (d : Array Int) (h1 : i2 = scanUp (fun x => !ltInt d[a]! x) d j i) (h2 : j2 = scanDown (fun x => ltInt d[a]! x) d i2 j) (h : j2 < i2) : partEqLoop ltInt a i j d = (i2, d) := by
  subst h1; subst h2; rw [partEqLoop_eq, if_pos h]
theorem pe_go (a i j i2 j2 : Nat) (d : Array Int) (h1 : i2 = scanUp (fun x => !ltInt d[a]! x) d j i) (h2 : j2 = scanDown (fun x => ltInt d[a]! x) d i2 j) (h : ¬ j2 < i2) : partEqLoop ltInt a i j d = partEqLoop ltInt a (i2 + 1) (j2 - 1) (swp d i2 j2) := by
  subst h1; subst h2; rw [partEqLoop_eq, if_neg h]
theorem pl_break (a i j i2 j2 : Nat) (d : Array Int) (h1 : i2 = scanUp (fun x => ltInt x d[a]!) d j i) (h2 : j2 = scanDown (fun x => !ltInt x d[a]!) d i2 j) (h : j2 < i2) : partLoop ltInt a i j d = (j2, d) := by
  subst h1; subst h2; rw [partLoop_eq, if_pos h]
theorem pl_go (a i j i2 j2 : Nat) (d : Array Int) (h1 : i2 = scanUp (fun x => ltInt x d[a]!) d j i) (h2 : j2 = scanDown (fun x => !ltInt x d[a]!) d i2 j) (h : ¬ j2 < i2) : partLoop ltInt a i j d = partLoop ltInt a (i2 + 1) (j2 - 1) (swp d i2 j2) := by
  subst h1; subst h2; rw [partLoop_eq, if_neg h]
section
variable (W0 : World) (blk off : Nat) (e : TypeId) (N : Nat) (dk : Array Int) (p : Int → Bool)
def upRel (j i : Nat) (vi : Value) (wr : World) : Prop := ∃ i' : Nat, vi = .int .i64 i' ∧ i ≤ i' ∧ i' ≤ j + 1 ∧ SW W0 wr blk off e N dk ∧ scanUp p dk j i' = scanUp p dk j i
def dnRel (i2 j : Nat) (vj : Value) (wr : World) : Prop := ∃ j' : Nat, vj = .int .i64 j' ∧ j' ≤ j ∧ i2 ≤ j' + 1 ∧ SW W0 wr blk off e N dk ∧ scanDown p dk i2 j' = scanDown p dk i2 j
end
def peRel (W0 : World) (blk off : Nat) (e : TypeId) (N : Nat) (d : Array Int) (a b : Nat) (D : Nat × Array Int) (vi vj : Value) (wr : World) : Prop :=
  ∃ (i j : Nat) (dk : Array Int), vi = .int .i64 i ∧ vj = .int .i64 j ∧ a < i ∧ i ≤ j + 1 ∧ j < b ∧ dk.size = d.size ∧ SW W0 wr blk off e N dk ∧ partEqLoop ltInt a i j dk = D
def plRel (W0 : World) (blk off : Nat) (e : TypeId) (N : Nat) (d : Array Int) (a b : Nat) (D : Nat × Array Int) (vi vj : Value) (wr : World) : Prop :=
  ∃ (i j : Nat) (dk : Array Int), vi = .int .i64 i ∧ vj = .int .i64 j ∧ a < i ∧ i ≤ j + 1 ∧ j < b ∧ dk.size = d.size ∧ SW W0 wr blk off e N dk ∧ partLoop ltInt a i j dk = D
set_option maxRecDepth 100000 in
set_option maxHeartbeats 4000000 in
theorem partitionEqual_any {W0 w : World} {blk off : Nat} {e : TypeId} {N : Nat} {d : Array Int} (h : SW W0 w blk off e N d) (cap a b pivot : Nat) (hap : a ≤ pivot) (hpb : pivot < b) (hb : b ≤ d.size) (hsz : d.size < 4611686018427387904) :
    Calls Try.prog 108 #[.slice (some ⟨blk, off, none⟩) d.size cap, .int .i64 a, .int .i64 b, .int .i64 pivot] w fun x w' => x = .returned (.int .i64 (Sort.partitionEqual ltInt d a b pivot).1) ∧ SW W0 w' blk off e N (Sort.partitionEqual ltInt d a b pivot).2 := by
  have H := Lib.hid h
  generalize hn : d.size = n at *
  have Hn := Lib.hid hn
  obtain ⟨G0, hG0⟩ : ∃ G0 : Nat → Int, ∀ t, G0 t = d[t]! := ⟨fun t => d[t]!, fun _ => rfl⟩
  have hc0 : ∀ t, t < n → w.cell? ⟨blk, off + t, none⟩ = some (.int .u32 (G0 t)) := fun t ht => by rw [hG0]; exact h.cells t (by omega)
  have hf0 : ∀ t, t < n → w.frozen? ⟨blk, off + t, none⟩ = false := fun t ht => h.free _
  obtain ⟨v', hy'⟩ := cell?_setCell_some (w := w) (p := ⟨blk, off + a, none⟩) (x := .int .u32 (G0 pivot)) (q := ⟨blk, off + pivot, none⟩) (hc0 pivot (by omega))
  have hst : SW W0 (((w.drewN 1).setCell ⟨blk, off + a, none⟩ (.int .u32 (G0 pivot))).setCell ⟨blk, off + pivot, none⟩ (.int .u32 (G0 a))) blk off e N (swp d a pivot) := by rw [hG0, hG0]; exact (h.drewN 1).swap a pivot (by omega) (by omega)
  have Hst := Lib.hid hst
  clear h hn hG0 hst
  have hD : Sort.partitionEqual ltInt d a b pivot = partEqLoop ltInt a (a + 1) (b - 1) (swp d a pivot) := rfl
  generalize Sort.partitionEqual ltInt d a b pivot = D at *
  have HD := Lib.hid hD
  clear hD
  go_enter Try.func108, Try.ntmps108
  go_wp2
  go_region
  go_wp2
  go_loopw [9, 10] (fun vi vj wr => peRel W0 blk off e N d a b D vi vj wr) (fun vi vj _ => (intOf vj).toNat + 1 - (intOf vi).toNat)
  case atStart => exact ⟨a + 1, b - 1, swp d a pivot, by go_num, by go_num, by omega, by omega, by omega, size_swp _ _ _, Hst.out, HD.out.symm⟩
  case round =>
    clear hc0 hf0 hy' v' Hst HD
    obtain ⟨i, j, dk, rfl, rfl, hai, hij, hjb, hsk, hsw, heq⟩ := hrel
    rename World => W1
    have hsk2 := hsk.trans Hn.out
    have HSk := Lib.hid hsw
    have Hsk := Lib.hid hsk
    have Hsk2 := Lib.hid hsk2
    obtain ⟨G, hG⟩ : ∃ G : Nat → Int, ∀ t, G t = dk[t]! := ⟨fun t => dk[t]!, fun _ => rfl⟩
    have HG := Lib.hid hG
    have HE := Lib.hid heq
    clear hsk hsk2 hsw hG heq
    go_wp2
    go_loopw [9] (fun vi w1 => upRel W0 blk off e N dk (fun x => !ltInt dk[a]! x) j i vi w1) (fun vi _ => j + 1 - (intOf vi).toNat)
    case atStart => exact ⟨i, rfl, Nat.le_refl _, hij, HSk.out, rfl⟩
    case round =>
      obtain ⟨i', rfl, hii, hij', hsw, hsc0⟩ := hrel
      have hsc := Lib.hid hsc0
      clear hsc0
      have hcw : ∀ t, t < n → wr.cell? ⟨blk, off + t, none⟩ = some (.int .u32 (G t)) := fun t ht => by rw [HG.out]; exact hsw.cells t (by rw [Hsk2.out]; exact ht)
      have HS := Lib.hid hsw
      clear hsw
      by_cases hle : i' ≤ j
      · go_wp2_with fail
        go_big_quiet (first | (go_at_call 107; refine Calls.quiet_of_same (less _ _ _)))
        go_wp2
        · have ht : (!ltInt (G a) (G i')) = true := by assumption
          go_roundw
          case rel => exact ⟨i' + 1, by go_num, by omega, by omega, HS.out.drewN nq, (su_go (fun x => !ltInt dk[a]! x) dk j i' hle (by rw [← HG.out, ← HG.out]; exact ht)).symm.trans hsc.out⟩
          case measure => simp [intOf]; omega
        · have ht1 : (!ltInt (G a) (G i')) = false := by assumption
          have hi2 := Lib.hid ((su_end (fun x => !ltInt dk[a]! x) dk j i' (.inr (by rw [← HG.out, ← HG.out]; exact ht1))).symm.trans hsc.out)
          have HS1 := Lib.hid (HS.out.drewN nq)
          clear hcw hsc HS
          go_loopw [10] (fun vj w2 => dnRel W0 blk off e N dk (fun x => ltInt dk[a]! x) i' j vj w2) (fun vj _ => (intOf vj).toNat)
          case atStart => exact ⟨j, rfl, Nat.le_refl _, hij', HS1.out, rfl⟩
          case round =>
            obtain ⟨j', rfl, hjj, hij2, hsw, hsd0⟩ := hrel
            have hsd := Lib.hid hsd0
            clear hsd0
            have hcw : ∀ t, t < n → wr.cell? ⟨blk, off + t, none⟩ = some (.int .u32 (G t)) := fun t ht => by rw [HG.out]; exact hsw.cells t (by rw [Hsk2.out]; exact ht)
            have HS := Lib.hid hsw
            clear hsw
            by_cases hle2 : i' ≤ j'
            · go_wp2_with fail
              go_big_quiet (first | (go_at_call 107; refine Calls.quiet_of_same (less _ _ _)))
              go_wp2
              · have ht : ltInt (G a) (G j') = true := by assumption
                go_roundw
                case rel => exact ⟨j' - 1, by go_num, by omega, by omega, HS.out.drewN nq, (sn_go (fun x => ltInt dk[a]! x) dk i' j' hle2 (by omega) (by rw [← HG.out, ← HG.out]; exact ht)).symm.trans hsd.out⟩
                case measure => simp [intOf]; omega
              · have ht : ltInt (G a) (G j') = false := by assumption
                have hne : i' ≠ j' := by
                  intro g
                  rw [g] at ht1
                  rw [ht] at ht1; cases ht1
                have hj2 := Lib.hid ((sn_end (fun x => ltInt dk[a]! x) dk i' j' (.inr (by rw [← HG.out, ← HG.out]; exact ht))).symm.trans hsd.out)
                clear hsd ht ht1
                generalize hW3 : wr.drewN nq = W3
                have H3 : Hid (SW W0 W3 blk off e N dk) := Lib.hid (by rw [← hW3]; exact HS.out.drewN nq)
                have hc3 : ∀ t, t < n → W3.cell? ⟨blk, off + t, none⟩ = some (.int .u32 (G t)) := fun t ht => by rw [HG.out]; exact H3.out.cells t (by rw [Hsk2.out]; exact ht)
                have hf3 : ∀ t, t < n → W3.frozen? ⟨blk, off + t, none⟩ = false := fun t ht => H3.out.free _
                clear hW3 hcw HS
                go_wp2
                go_region
                all_goals go_wp2
                go_roundw
                case rel => exact ⟨i' + 1, j' - 1, swp dk i' j', by go_num, by go_num, by omega, by omega, by omega, by rw [size_swp]; exact Hsk.out, by rw [HG.out, HG.out]; exact ((H3.out.drewN 1).swap i' j' (by rw [Hsk2.out]; omega) (by rw [Hsk2.out]; omega)), by rw [← HE.out, pe_go a i j i' j' dk hi2.out hj2.out (by omega)]⟩
                case measure => simp [intOf]; omega
            · go_wp2_with fail
              go_big_quiet (first | (go_at_call 107; refine Calls.quiet_of_same (less _ _ _)))
              have hj2 := Lib.hid ((sn_end (fun x => ltInt dk[a]! x) dk i' j' (.inl hle2)).symm.trans hsd.out)
              clear hsd
              generalize hW3 : wr.drewN nq = W3
              have H3 : Hid (SW W0 W3 blk off e N dk) := Lib.hid (by rw [← hW3]; exact HS.out.drewN nq)
              clear hW3 hcw HS
              go_wp2
              go_ret
              rw [← HE.out, pe_break a i j i' j' dk hi2.out hj2.out (by omega)]
              exact ⟨rfl, H3.out⟩
      · go_wp2_with fail
        go_big_quiet (first | (go_at_call 107; refine Calls.quiet_of_same (less _ _ _)))
        go_wp2
        have hi2 := Lib.hid ((su_end (fun x => !ltInt dk[a]! x) dk j i' (.inl hle)).symm.trans hsc.out)
        have HS1 := Lib.hid (HS.out.drewN nq)
        clear hcw hsc HS
        go_loopw [10] (fun vj w2 => dnRel W0 blk off e N dk (fun x => ltInt dk[a]! x) i' j vj w2) (fun vj _ => (intOf vj).toNat)
        case atStart => exact ⟨j, rfl, Nat.le_refl _, hij', HS1.out, rfl⟩
        case round =>
          obtain ⟨j', rfl, hjj, hij2, hsw, hsd0⟩ := hrel
          have hsd := Lib.hid hsd0
          clear hsd0
          have hcw : ∀ t, t < n → wr.cell? ⟨blk, off + t, none⟩ = some (.int .u32 (G t)) := fun t ht => by rw [HG.out]; exact hsw.cells t (by rw [Hsk2.out]; exact ht)
          have HS := Lib.hid hsw
          clear hsw
          have hle2 : ¬ i' ≤ j' := by omega
          go_wp2_with fail
          go_big_quiet (first | (go_at_call 107; refine Calls.quiet_of_same (less _ _ _)))
          have hj2 := Lib.hid ((sn_end (fun x => ltInt dk[a]! x) dk i' j' (.inl hle2)).symm.trans hsd.out)
          clear hsd
          generalize hW3 : wr.drewN nq = W3
          have H3 : Hid (SW W0 W3 blk off e N dk) := Lib.hid (by rw [← hW3]; exact HS.out.drewN nq)
          clear hW3 hcw HS
          go_wp2
          go_ret
          rw [← HE.out, pe_break a i j i' j' dk hi2.out hj2.out (by omega)]
          exact ⟨rfl, H3.out⟩
def PT (W0 : World) (blk off : Nat) (e : TypeId) (N : Nat) (D : Nat × Array Int) (a : Nat) (x : Ending) (w' : World) : Prop :=
  ∃ ap : Bool, x = .returned (.tuple #[.int .i64 D.1, .bool ap]) ∧ SW W0 w' blk off e N (swp D.2 D.1 a)
set_option maxRecDepth 100000 in
set_option maxHeartbeats 8000000 in
theorem partition_any {W0 w : World} {blk off : Nat} {e : TypeId} {N : Nat} {d : Array Int} (h : SW W0 w blk off e N d) (cap a b pivot : Nat) (hap : a ≤ pivot) (hpb : pivot < b) (hb : b ≤ d.size) (hsz : d.size < 4611686018427387904) :
    Calls Try.prog 109 #[.slice (some ⟨blk, off, none⟩) d.size cap, .int .i64 a, .int .i64 b, .int .i64 pivot] w (PT W0 blk off e N (partLoop ltInt a (a + 1) (b - 1) (swp d a pivot)) a) := by
  have H := Lib.hid h
  generalize hn : d.size = n at *
  have Hn := Lib.hid hn
  obtain ⟨G0, hG0⟩ : ∃ G0 : Nat → Int, ∀ t, G0 t = d[t]! := ⟨fun t => d[t]!, fun _ => rfl⟩
  have hc0 : ∀ t, t < n → w.cell? ⟨blk, off + t, none⟩ = some (.int .u32 (G0 t)) := fun t ht => by rw [hG0]; exact h.cells t (by omega)
  have hf0 : ∀ t, t < n → w.frozen? ⟨blk, off + t, none⟩ = false := fun t ht => h.free _
  obtain ⟨v', hy'⟩ := cell?_setCell_some (w := w) (p := ⟨blk, off + a, none⟩) (x := .int .u32 (G0 pivot)) (q := ⟨blk, off + pivot, none⟩) (hc0 pivot (by omega))
  have hst : SW W0 (((w.drewN 1).setCell ⟨blk, off + a, none⟩ (.int .u32 (G0 pivot))).setCell ⟨blk, off + pivot, none⟩ (.int .u32 (G0 a))) blk off e N (swp d a pivot) := by rw [hG0, hG0]; exact (h.drewN 1).swap a pivot (by omega) (by omega)
  have Hst := Lib.hid hst
  clear h hn hG0 hst
  generalize hD : partLoop ltInt a (a + 1) (b - 1) (swp d a pivot) = D at *
  have HD := Lib.hid hD
  clear hD
  go_enter Try.func109, Try.ntmps109
  go_wp2
  go_region
  go_wp2
  obtain ⟨i, j, dk, hi, hj, hai, hij, hjb, hsk, hsw, heq⟩ : plRel W0 blk off e N d a b D (.int .i64 ((a : Int) + 1)) (.int .i64 ((b : Int) - 1)) _ := ⟨a + 1, b - 1, swp d a pivot, by go_num, by go_num, by omega, by omega, by omega, size_swp _ _ _, Hst.out, HD.out⟩
  rw [hi, hj]
  clear hc0 hf0 hy' v' Hst HD hi hj
  have hsk2 := hsk.trans Hn.out
  have HSk := Lib.hid hsw
  have Hsk := Lib.hid hsk
  have Hsk2 := Lib.hid hsk2
  obtain ⟨G, hG⟩ : ∃ G : Nat → Int, ∀ t, G t = dk[t]! := ⟨fun t => dk[t]!, fun _ => rfl⟩
  have HG := Lib.hid hG
  have HE := Lib.hid heq
  clear hsk hsk2 hsw hG heq
  go_loopw [10] (fun vi w1 => upRel W0 blk off e N dk (fun x => ltInt x dk[a]!) j i vi w1) (fun vi _ => j + 1 - (intOf vi).toNat)
  case atStart => exact ⟨i, rfl, Nat.le_refl _, hij, HSk.out, rfl⟩
  case round =>
    obtain ⟨i', rfl, hii, hij', hsw, hsc0⟩ := hrel
    have hsc := Lib.hid hsc0
    clear hsc0
    have hcw : ∀ t, t < n → wr.cell? ⟨blk, off + t, none⟩ = some (.int .u32 (G t)) := fun t ht => by rw [HG.out]; exact hsw.cells t (by rw [Hsk2.out]; exact ht)
    have HS := Lib.hid hsw
    clear hsw
    by_cases hle : i' ≤ j
    · go_wp2_with fail
      go_big_quiet (first | (go_at_call 107; refine Calls.quiet_of_same (less _ _ _)))
      go_wp2
      · have ht : ltInt (G i') (G a) = true := by assumption
        go_roundw
        case rel => exact ⟨i' + 1, by go_num, by omega, by omega, HS.out.drewN nq, (su_go (fun x => ltInt x dk[a]!) dk j i' hle (by rw [← HG.out, ← HG.out]; exact ht)).symm.trans hsc.out⟩
        case measure => simp [intOf]; omega
      · have ht1 : ltInt (G i') (G a) = false := by assumption
        have hi2 := Lib.hid ((su_end (fun x => ltInt x dk[a]!) dk j i' (.inr (by rw [← HG.out, ← HG.out]; exact ht1))).symm.trans hsc.out)
        have HS1 := Lib.hid (HS.out.drewN nq)
        clear hcw hsc HS
        go_loopw [11] (fun vj w2 => dnRel W0 blk off e N dk (fun x => !ltInt x dk[a]!) i' j vj w2) (fun vj _ => (intOf vj).toNat)
        case atStart => exact ⟨j, rfl, Nat.le_refl _, hij', HS1.out, rfl⟩
        case round =>
          obtain ⟨j', rfl, hjj, hij2, hsw, hsd0⟩ := hrel
          have hsd := Lib.hid hsd0
          clear hsd0
          have hcw : ∀ t, t < n → wr.cell? ⟨blk, off + t, none⟩ = some (.int .u32 (G t)) := fun t ht => by rw [HG.out]; exact hsw.cells t (by rw [Hsk2.out]; exact ht)
          have HS := Lib.hid hsw
          clear hsw
          by_cases hle2 : i' ≤ j'
          · go_wp2_with fail
            go_big_quiet (first | (go_at_call 107; refine Calls.quiet_of_same (less _ _ _)))
            go_wp2
            · have ht : (!ltInt (G j') (G a)) = true := by assumption
              go_roundw
              case rel => exact ⟨j' - 1, by go_num, by omega, by omega, HS.out.drewN nq, (sn_go (fun x => !ltInt x dk[a]!) dk i' j' hle2 (by omega) (by rw [← HG.out, ← HG.out]; exact ht)).symm.trans hsd.out⟩
              case measure => simp [intOf]; omega
            · have ht : (!ltInt (G j') (G a)) = false := by assumption
              have hne : i' ≠ j' := by
                intro g
                rw [g] at ht1
                rw [ht1] at ht; cases ht
              have hj2 := Lib.hid ((sn_end (fun x => !ltInt x dk[a]!) dk i' j' (.inr (by rw [← HG.out, ← HG.out]; exact ht))).symm.trans hsd.out)
              clear hsd ht ht1
              generalize hW3 : wr.drewN nq = W3
              have H3 : Hid (SW W0 W3 blk off e N dk) := Lib.hid (by rw [← hW3]; exact HS.out.drewN nq)
              have hc3 : ∀ t, t < n → W3.cell? ⟨blk, off + t, none⟩ = some (.int .u32 (G t)) := fun t ht => by rw [HG.out]; exact H3.out.cells t (by rw [Hsk2.out]; exact ht)
              have hf3 : ∀ t, t < n → W3.frozen? ⟨blk, off + t, none⟩ = false := fun t ht => H3.out.free _
              clear hW3 hcw HS
              go_wp2
              go_region
              all_goals go_wp2
              obtain ⟨i0, j0, dk0, hi0, hj0, hai0, hij0, hjb0, hsk0, hsw0, heq0⟩ : plRel W0 blk off e N d a b D (.int .i64 ((i' : Int) + 1)) (.int .i64 ((j' : Int) - 1)) (((W3.drewN 1).setCell ⟨blk, off + i', none⟩ (.int .u32 (G j'))).setCell ⟨blk, off + j', none⟩ (.int .u32 (G i'))) := ⟨i' + 1, j' - 1, swp dk i' j', by go_num, by go_num, by omega, by omega, by omega, by rw [size_swp]; exact Hsk.out, by rw [HG.out, HG.out]; exact ((H3.out.drewN 1).swap i' j' (by rw [Hsk2.out]; omega) (by rw [Hsk2.out]; omega)), by rw [← HE.out, pl_go a i j i' j' dk hi2.out hj2.out (by omega)]⟩
              rw [hi0, hj0]
              clear HE H3 hc3 hf3 hi2 hj2 HG HSk Hsk Hsk2 hne hle hle2 hi0 hj0 HS1
              clear hii hij' hjj hij2 hai hij hjb
              go_loopw [10, 11] (fun vi vj wr => plRel W0 blk off e N d a b D vi vj wr) (fun vi vj _ => (intOf vj).toNat + 1 - (intOf vi).toNat)
              case atStart => exact ⟨i0, j0, dk0, rfl, rfl, hai0, hij0, hjb0, hsk0, hsw0, heq0⟩
              case round =>
                clear hai0 hij0 hjb0 hsk0 hsw0 heq0
                obtain ⟨i, j, dk, rfl, rfl, hai, hij, hjb, hsk, hsw, heq⟩ := hrel
                rename World => W1
                have hsk2 := hsk.trans Hn.out
                have HSk := Lib.hid hsw
                have Hsk := Lib.hid hsk
                have Hsk2 := Lib.hid hsk2
                obtain ⟨G, hG⟩ : ∃ G : Nat → Int, ∀ t, G t = dk[t]! := ⟨fun t => dk[t]!, fun _ => rfl⟩
                have HG := Lib.hid hG
                have HE := Lib.hid heq
                clear hsk hsk2 hsw hG heq
                go_wp2
                go_loopw [10] (fun vi w1 => upRel W0 blk off e N dk (fun x => ltInt x dk[a]!) j i vi w1) (fun vi _ => j + 1 - (intOf vi).toNat)
                case atStart => exact ⟨i, rfl, Nat.le_refl _, hij, HSk.out, rfl⟩
                case round =>
                  obtain ⟨i', rfl, hii, hij', hsw, hsc0⟩ := hrel
                  have hsc := Lib.hid hsc0
                  clear hsc0
                  have hcw : ∀ t, t < n → wr.cell? ⟨blk, off + t, none⟩ = some (.int .u32 (G t)) := fun t ht => by rw [HG.out]; exact hsw.cells t (by rw [Hsk2.out]; exact ht)
                  have HS := Lib.hid hsw
                  clear hsw
                  by_cases hle : i' ≤ j
                  · go_wp2_with fail
                    go_big_quiet (first | (go_at_call 107; refine Calls.quiet_of_same (less _ _ _)))
                    go_wp2
                    · have ht : ltInt (G i') (G a) = true := by assumption
                      go_roundw
                      case rel => exact ⟨i' + 1, by go_num, by omega, by omega, HS.out.drewN nq, (su_go (fun x => ltInt x dk[a]!) dk j i' hle (by rw [← HG.out, ← HG.out]; exact ht)).symm.trans hsc.out⟩
                      case measure => simp [intOf]; omega
                    · have ht1 : ltInt (G i') (G a) = false := by assumption
                      have hi2 := Lib.hid ((su_end (fun x => ltInt x dk[a]!) dk j i' (.inr (by rw [← HG.out, ← HG.out]; exact ht1))).symm.trans hsc.out)
                      have HS1 := Lib.hid (HS.out.drewN nq)
                      clear hcw hsc HS
                      go_loopw [11] (fun vj w2 => dnRel W0 blk off e N dk (fun x => !ltInt x dk[a]!) i' j vj w2) (fun vj _ => (intOf vj).toNat)
                      case atStart => exact ⟨j, rfl, Nat.le_refl _, hij', HS1.out, rfl⟩
                      case round =>
                        obtain ⟨j', rfl, hjj, hij2, hsw, hsd0⟩ := hrel
                        have hsd := Lib.hid hsd0
                        clear hsd0
                        have hcw : ∀ t, t < n → wr.cell? ⟨blk, off + t, none⟩ = some (.int .u32 (G t)) := fun t ht => by rw [HG.out]; exact hsw.cells t (by rw [Hsk2.out]; exact ht)
                        have HS := Lib.hid hsw
                        clear hsw
                        by_cases hle2 : i' ≤ j'
                        · go_wp2_with fail
                          go_big_quiet (first | (go_at_call 107; refine Calls.quiet_of_same (less _ _ _)))
                          go_wp2
                          · have ht : (!ltInt (G j') (G a)) = true := by assumption
                            go_roundw
                            case rel => exact ⟨j' - 1, by go_num, by omega, by omega, HS.out.drewN nq, (sn_go (fun x => !ltInt x dk[a]!) dk i' j' hle2 (by omega) (by rw [← HG.out, ← HG.out]; exact ht)).symm.trans hsd.out⟩
                            case measure => simp [intOf]; omega
                          · have ht : (!ltInt (G j') (G a)) = false := by assumption
                            have hne : i' ≠ j' := by
                              intro g
                              rw [g] at ht1
                              rw [ht1] at ht; cases ht
                            have hj2 := Lib.hid ((sn_end (fun x => !ltInt x dk[a]!) dk i' j' (.inr (by rw [← HG.out, ← HG.out]; exact ht))).symm.trans hsd.out)
                            clear hsd ht ht1
                            generalize hW3 : wr.drewN nq = W3
                            have H3 : Hid (SW W0 W3 blk off e N dk) := Lib.hid (by rw [← hW3]; exact HS.out.drewN nq)
                            have hc3 : ∀ t, t < n → W3.cell? ⟨blk, off + t, none⟩ = some (.int .u32 (G t)) := fun t ht => by rw [HG.out]; exact H3.out.cells t (by rw [Hsk2.out]; exact ht)
                            have hf3 : ∀ t, t < n → W3.frozen? ⟨blk, off + t, none⟩ = false := fun t ht => H3.out.free _
                            clear hW3 hcw HS
                            go_wp2
                            go_region
                            all_goals go_wp2
                            go_roundw
                            case rel => exact ⟨i' + 1, j' - 1, swp dk i' j', by go_num, by go_num, by omega, by omega, by omega, by rw [size_swp]; exact Hsk.out, by rw [HG.out, HG.out]; exact ((H3.out.drewN 1).swap i' j' (by rw [Hsk2.out]; omega) (by rw [Hsk2.out]; omega)), by rw [← HE.out, pl_go a i j i' j' dk hi2.out hj2.out (by omega)]⟩
                            case measure => simp [intOf]; omega
                        · go_wp2_with fail
                          go_big_quiet (first | (go_at_call 107; refine Calls.quiet_of_same (less _ _ _)))
                          have hj2 := Lib.hid ((sn_end (fun x => !ltInt x dk[a]!) dk i' j' (.inl hle2)).symm.trans hsd.out)
                          clear hsd
                          generalize hW3 : wr.drewN nq = W3
                          have H3 : Hid (SW W0 W3 blk off e N dk) := Lib.hid (by rw [← hW3]; exact HS.out.drewN nq)
                          clear hW3 hcw HS
                          have hc3 : ∀ t, t < n → W3.cell? ⟨blk, off + t, none⟩ = some (.int .u32 (G t)) := fun t ht => by rw [HG.out]; exact H3.out.cells t (by rw [Hsk2.out]; exact ht)
                          obtain ⟨v3, hy3⟩ := cell?_setCell_some (w := W3) (p := ⟨blk, off + j', none⟩) (x := .int .u32 (G a)) (q := ⟨blk, off + a, none⟩) (hc3 a (by omega))
                          have hf3 : ∀ t, t < n → W3.frozen? ⟨blk, off + t, none⟩ = false := fun t ht => H3.out.free _
                          go_wp2
                          go_region
                          all_goals go_wp2
                          go_ret2
                          rw [← HE.out, pl_break a i j i' j' dk hi2.out hj2.out (by omega)]
                          exact ⟨_, rfl, by rw [HG.out, HG.out]; exact (H3.out.drewN 1).swap j' a (by rw [Hsk2.out]; omega) (by rw [Hsk2.out]; omega)⟩
                  · go_wp2_with fail
                    go_big_quiet (first | (go_at_call 107; refine Calls.quiet_of_same (less _ _ _)))
                    go_wp2
                    have hi2 := Lib.hid ((su_end (fun x => ltInt x dk[a]!) dk j i' (.inl hle)).symm.trans hsc.out)
                    have HS1 := Lib.hid (HS.out.drewN nq)
                    clear hcw hsc HS
                    go_loopw [11] (fun vj w2 => dnRel W0 blk off e N dk (fun x => !ltInt x dk[a]!) i' j vj w2) (fun vj _ => (intOf vj).toNat)
                    case atStart => exact ⟨j, rfl, Nat.le_refl _, hij', HS1.out, rfl⟩
                    case round =>
                      obtain ⟨j', rfl, hjj, hij2, hsw, hsd0⟩ := hrel
                      have hsd := Lib.hid hsd0
                      clear hsd0
                      have hcw : ∀ t, t < n → wr.cell? ⟨blk, off + t, none⟩ = some (.int .u32 (G t)) := fun t ht => by rw [HG.out]; exact hsw.cells t (by rw [Hsk2.out]; exact ht)
                      have HS := Lib.hid hsw
                      clear hsw
                      have hle2 : ¬ i' ≤ j' := by omega
                      go_wp2_with fail
                      go_big_quiet (first | (go_at_call 107; refine Calls.quiet_of_same (less _ _ _)))
                      have hj2 := Lib.hid ((sn_end (fun x => !ltInt x dk[a]!) dk i' j' (.inl hle2)).symm.trans hsd.out)
                      clear hsd
                      generalize hW3 : wr.drewN nq = W3
                      have H3 : Hid (SW W0 W3 blk off e N dk) := Lib.hid (by rw [← hW3]; exact HS.out.drewN nq)
                      clear hW3 hcw HS
                      have hc3 : ∀ t, t < n → W3.cell? ⟨blk, off + t, none⟩ = some (.int .u32 (G t)) := fun t ht => by rw [HG.out]; exact H3.out.cells t (by rw [Hsk2.out]; exact ht)
                      obtain ⟨v3, hy3⟩ := cell?_setCell_some (w := W3) (p := ⟨blk, off + j', none⟩) (x := .int .u32 (G a)) (q := ⟨blk, off + a, none⟩) (hc3 a (by omega))
                      have hf3 : ∀ t, t < n → W3.frozen? ⟨blk, off + t, none⟩ = false := fun t ht => H3.out.free _
                      go_wp2
                      go_region
                      all_goals go_wp2
                      go_ret2
                      rw [← HE.out, pl_break a i j i' j' dk hi2.out hj2.out (by omega)]
                      exact ⟨_, rfl, by rw [HG.out, HG.out]; exact (H3.out.drewN 1).swap j' a (by rw [Hsk2.out]; omega) (by rw [Hsk2.out]; omega)⟩
          · go_wp2_with fail
            go_big_quiet (first | (go_at_call 107; refine Calls.quiet_of_same (less _ _ _)))
            have hj2 := Lib.hid ((sn_end (fun x => !ltInt x dk[a]!) dk i' j' (.inl hle2)).symm.trans hsd.out)
            clear hsd
            generalize hW3 : wr.drewN nq = W3
            have H3 : Hid (SW W0 W3 blk off e N dk) := Lib.hid (by rw [← hW3]; exact HS.out.drewN nq)
            clear hW3 hcw HS
            have hc3 : ∀ t, t < n → W3.cell? ⟨blk, off + t, none⟩ = some (.int .u32 (G t)) := fun t ht => by rw [HG.out]; exact H3.out.cells t (by rw [Hsk2.out]; exact ht)
            obtain ⟨v3, hy3⟩ := cell?_setCell_some (w := W3) (p := ⟨blk, off + j', none⟩) (x := .int .u32 (G a)) (q := ⟨blk, off + a, none⟩) (hc3 a (by omega))
            have hf3 : ∀ t, t < n → W3.frozen? ⟨blk, off + t, none⟩ = false := fun t ht => H3.out.free _
            go_wp2
            go_region
            all_goals go_wp2
            go_ret2
            rw [← HE.out, pl_break a i j i' j' dk hi2.out hj2.out (by omega)]
            exact ⟨_, rfl, by rw [HG.out, HG.out]; exact (H3.out.drewN 1).swap j' a (by rw [Hsk2.out]; omega) (by rw [Hsk2.out]; omega)⟩
    · go_wp2_with fail
      go_big_quiet (first | (go_at_call 107; refine Calls.quiet_of_same (less _ _ _)))
      go_wp2
      have hi2 := Lib.hid ((su_end (fun x => ltInt x dk[a]!) dk j i' (.inl hle)).symm.trans hsc.out)
      have HS1 := Lib.hid (HS.out.drewN nq)
      clear hcw hsc HS
      go_loopw [11] (fun vj w2 => dnRel W0 blk off e N dk (fun x => !ltInt x dk[a]!) i' j vj w2) (fun vj _ => (intOf vj).toNat)
      case atStart => exact ⟨j, rfl, Nat.le_refl _, hij', HS1.out, rfl⟩
      case round =>
        obtain ⟨j', rfl, hjj, hij2, hsw, hsd0⟩ := hrel
        have hsd := Lib.hid hsd0
        clear hsd0
        have hcw : ∀ t, t < n → wr.cell? ⟨blk, off + t, none⟩ = some (.int .u32 (G t)) := fun t ht => by rw [HG.out]; exact hsw.cells t (by rw [Hsk2.out]; exact ht)
        have HS := Lib.hid hsw
        clear hsw
        have hle2 : ¬ i' ≤ j' := by omega
        go_wp2_with fail
        go_big_quiet (first | (go_at_call 107; refine Calls.quiet_of_same (less _ _ _)))
        have hj2 := Lib.hid ((sn_end (fun x => !ltInt x dk[a]!) dk i' j' (.inl hle2)).symm.trans hsd.out)
        clear hsd
        generalize hW3 : wr.drewN nq = W3
        have H3 : Hid (SW W0 W3 blk off e N dk) := Lib.hid (by rw [← hW3]; exact HS.out.drewN nq)
        clear hW3 hcw HS
        have hc3 : ∀ t, t < n → W3.cell? ⟨blk, off + t, none⟩ = some (.int .u32 (G t)) := fun t ht => by rw [HG.out]; exact H3.out.cells t (by rw [Hsk2.out]; exact ht)
        obtain ⟨v3, hy3⟩ := cell?_setCell_some (w := W3) (p := ⟨blk, off + j', none⟩) (x := .int .u32 (G a)) (q := ⟨blk, off + a, none⟩) (hc3 a (by omega))
        have hf3 : ∀ t, t < n → W3.frozen? ⟨blk, off + t, none⟩ = false := fun t ht => H3.out.free _
        go_wp2
        go_region
        all_goals go_wp2
        go_ret2
        rw [← HE.out, pl_break a i j i' j' dk hi2.out hj2.out (by omega)]
        exact ⟨_, rfl, by rw [HG.out, HG.out]; exact (H3.out.drewN 1).swap j' a (by rw [Hsk2.out]; omega) (by rw [Hsk2.out]; omega)⟩
end Go.Proofs.Ytldmglodjafklaa.Srt
