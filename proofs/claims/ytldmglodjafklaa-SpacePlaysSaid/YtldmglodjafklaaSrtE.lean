/- The library's sort at rows of uint32: partialInsertionSortOrdered. -/
import Derived.Test.YtldmglodjafklaaSrtA
import Derived.Deep.DeepCutAuto
namespace Go.Proofs.Ytldmglodjafklaa.Srt
open Go.RowKit Go.Sort
set_option linter.unusedVariables false
section
variable (d : Array Int)
theorem sc_go (b i : Nat) (h : i < b) (hl : ltInt d[i]! d[i - 1]! = false) : scanSorted ltInt d b i = scanSorted ltInt d b (i + 1) := by rw [scanSorted, if_pos (by rw [hl]; simpa using h)]
theorem sc_end (b i : Nat) (h : ¬ i < b ∨ ltInt d[i]! d[i - 1]! = true) : scanSorted ltInt d b i = i := by
  rw [scanSorted, if_neg]
  rw [Bool.and_eq_true, decide_eq_true_eq]
  rintro ⟨h1, h2⟩
  rcases h with h | h
  · exact h h1
  · rw [h] at h2; cases h2
theorem dn_go (j : Nat) (h0 : 0 < j) (hl : ltInt d[j]! d[j - 1]! = true) : shiftDown ltInt j d = shiftDown ltInt (j - 1) (swp d j (j - 1)) := by
  cases j with
  | zero => omega
  | succ k =>
    have hl' : ltInt d[k + 1]! d[k]! = true := hl
    rw [shiftDown, if_neg (by rw [hl']; simp)]; rfl
theorem dn_end (j : Nat) (h : j = 0 ∨ ltInt d[j]! d[j - 1]! = false) : shiftDown ltInt j d = d := by
  cases j with
  | zero => rfl
  | succ k =>
    rcases h with h | h
    · omega
    · have hl' : ltInt d[k + 1]! d[k]! = false := h
      rw [shiftDown, if_pos (by rw [hl']; rfl)]
theorem up_go (b j : Nat) (h : j < b) (hl : ltInt d[j]! d[j - 1]! = true) : shiftUp ltInt b j d = shiftUp ltInt b (j + 1) (swp d j (j - 1)) := by rw [shiftUp, if_pos h, if_neg (by rw [hl]; simp)]
theorem up_end (b j : Nat) (h : ¬ j < b ∨ ltInt d[j]! d[j - 1]! = false) : shiftUp ltInt b j d = d := by
  rw [shiftUp]
  by_cases g : j < b
  · rw [if_pos g, if_pos]
    rcases h with h | h
    · exact absurd g h
    · rw [h]; rfl
  · rw [if_neg g]
end
theorem pi_yes (a b s i k : Nat) (d : Array Int) (h : k = scanSorted ltInt d b i) (hk : k = b) : partialIns ltInt a b (s + 1) i d = (d, true) := by rw [partialIns_succ, ← h, if_pos hk]
theorem pi_no (a b s i k : Nat) (d : Array Int) (h : k = scanSorted ltInt d b i) (hk : k ≠ b) (h50 : b - a < 50) : partialIns ltInt a b (s + 1) i d = (d, false) := by rw [partialIns_succ, ← h, if_neg hk, if_pos h50]
theorem pi_go (a b s i k : Nat) (d : Array Int) (h : k = scanSorted ltInt d b i) (hk : k ≠ b) (h50 : ¬ b - a < 50) : partialIns ltInt a b (s + 1) i d = partialIns ltInt a b s k (fixUp ltInt b k (fixDown ltInt a k (swp d k (k - 1)))) := by rw [partialIns_succ, ← h, if_neg hk, if_neg h50]
section
variable (W0 : World) (blk off : Nat) (e : TypeId) (N : Nat) (n : Nat)
def piRel (a b : Nat) (D : Array Int × Bool) (vi vj : Value) (wr : World) : Prop :=
  ∃ (s i : Nat) (dk : Array Int), vi = .int .i64 i ∧ vj = .int .i64 (5 - (s : Int)) ∧ s ≤ 5 ∧ a < i ∧ i ≤ b ∧ dk.size = n ∧ SW W0 wr blk off e N dk ∧ partialIns ltInt a b s i dk = D
def scRel (dk : Array Int) (b i : Nat) (vi : Value) (wr : World) : Prop := ∃ k : Nat, vi = .int .i64 k ∧ i ≤ k ∧ k ≤ b ∧ SW W0 wr blk off e N dk ∧ scanSorted ltInt dk b k = scanSorted ltInt dk b i
def rowIs (D : Array Int) (wr : World) : Prop := ∃ dk : Array Int, dk.size = n ∧ SW W0 wr blk off e N dk ∧ dk = D
def dnRel' (D : Array Int) (i : Nat) (vj : Value) (wr : World) : Prop := ∃ (j : Nat) (dj : Array Int), vj = .int .i64 j ∧ j < i ∧ dj.size = n ∧ SW W0 wr blk off e N dj ∧ shiftDown ltInt j dj = D
def upRel' (D : Array Int) (i b : Nat) (vj : Value) (wr : World) : Prop := ∃ (j : Nat) (dj : Array Int), vj = .int .i64 j ∧ i < j ∧ j ≤ b ∧ dj.size = n ∧ SW W0 wr blk off e N dj ∧ shiftUp ltInt b j dj = D
end
set_option maxRecDepth 100000 in
set_option maxHeartbeats 4000000 in
theorem partialInsertionSort_any {W0 w : World} {blk off : Nat} {e : TypeId} {N : Nat} {d : Array Int} (h : SW W0 w blk off e N d) (cap a b : Nat) (hab : a < b) (hb : b ≤ d.size) (hsz : d.size < 4611686018427387904) :
    Calls Try.prog 106 #[.slice (some ⟨blk, off, none⟩) d.size cap, .int .i64 a, .int .i64 b] w fun x w' => x = .returned (.bool (Sort.partialInsertionSort ltInt d a b).2) ∧ SW W0 w' blk off e N (Sort.partialInsertionSort ltInt d a b).1 := by
  have H := Lib.hid h
  have hD : partialIns ltInt a b 5 (a + 1) d = Sort.partialInsertionSort ltInt d a b := rfl
  generalize Sort.partialInsertionSort ltInt d a b = D at *
  generalize hn : d.size = n at *
  have Hn := Lib.hid hn
  have HD := Lib.hid hD
  clear h hn hD
  go_enter Try.func106, Try.ntmps106
  go_wp2
  go_loopw [7, 8, 9, 10] (fun vi vj _ _ wr => piRel W0 blk off e N n a b D vi vj wr) (fun _ vj _ _ _ => (5 - intOf vj).toNat)
  case atStart => exact ⟨5, a + 1, d, by go_num, by go_num, by omega, by omega, by omega, Hn.out, H.out, HD.out⟩
  case round =>
    obtain ⟨s, i, dk, rfl, rfl, hs, hai, hib, hsk, hsw, heq⟩ := hrel
    have HSk := Lib.hid hsw
    have Hsk := Lib.hid hsk
    have HE := Lib.hid heq
    clear hsk hsw heq
    cases s with
    | zero =>
      go_wp2
      go_ret
      rw [← HE.out]
      exact ⟨rfl, HSk.out⟩
    | succ s =>
      rw [show (5 : Int) - ((s + 1 : Nat) : Int) = 5 - ((s : Int) + 1) by omega]
      obtain ⟨G, hG⟩ : ∃ G : Nat → Int, ∀ t, G t = dk[t]! := ⟨fun t => dk[t]!, fun _ => rfl⟩
      have HG := Lib.hid hG
      clear hG
      have hs5 : decide ((5 : Int) - ((s : Int) + 1) < 5) = true := decide_eq_true (by omega)
      go_wp2
      rename World => W1
      go_loopw [7] (fun vi wr => scRel W0 blk off e N dk b i vi wr) (fun vi _ => b - (intOf vi).toNat)
      case atStart => exact ⟨i, rfl, Nat.le_refl _, hib, HSk.out, rfl⟩
      case round =>
        obtain ⟨k, rfl, hik, hkb, hsw, hsc0⟩ := hrel
        have hsc := Lib.hid hsc0
        clear hsc0
        have hcw : ∀ t, t < n → wr.cell? ⟨blk, off + t, none⟩ = some (.int .u32 (G t)) := fun t ht => by rw [HG.out]; exact hsw.cells t (by rw [Hsk.out]; exact ht)
        have HS := Lib.hid hsw
        clear hsw
        by_cases hkb2 : k < b
        · by_cases h50 : b - a < 50
          · have h50z : (b : Int) - (a : Int) < 50 := by omega
            go_wp2_with fail
            go_big_quiet (first | (go_at_call 107; refine Calls.quiet_of_same (less _ _ _)))
            go_wp2
            · have ht : ltInt (G k) (G (k - 1)) = false := by
                have : (!ltInt (G k) (G (k - 1))) = true := by assumption
                simpa using this
              go_roundw
              case rel => exact ⟨k + 1, by go_num, by omega, by omega, HS.out.drewN nq, (sc_go dk b k hkb2 (by rw [← HG.out, ← HG.out]; exact ht)).symm.trans hsc.out⟩
              case measure => simp [intOf]; omega
            · have ht : ltInt (G k) (G (k - 1)) = true := by
                have : (!ltInt (G k) (G (k - 1))) = false := by assumption
                simpa using this
              have hk2 := Lib.hid ((sc_end dk b k (.inr (by rw [← HG.out, ← HG.out]; exact ht))).symm.trans hsc.out)
              go_ret
              rw [← HE.out, pi_no a b s i k dk hk2.out (by omega) h50]
              exact ⟨rfl, HS.out.drewN nq⟩
          · have h50z : decide ((b : Int) - (a : Int) < 50) = false := decide_eq_false (by omega)
            have h50y : ¬ (b : Int) - (a : Int) < 50 := by omega
            go_wp2_with fail
            go_big_quiet (first | (go_at_call 107; refine Calls.quiet_of_same (less _ _ _)))
            go_wp2
            · have ht : ltInt (G k) (G (k - 1)) = false := by
                have : (!ltInt (G k) (G (k - 1))) = true := by assumption
                simpa using this
              go_roundw
              case rel => exact ⟨k + 1, by go_num, by omega, by omega, HS.out.drewN nq, (sc_go dk b k hkb2 (by rw [← HG.out, ← HG.out]; exact ht)).symm.trans hsc.out⟩
              case measure => simp [intOf]; omega
            · have ht : ltInt (G k) (G (k - 1)) = true := by
                have : (!ltInt (G k) (G (k - 1))) = false := by assumption
                simpa using this
              have hk2 := Lib.hid ((sc_end dk b k (.inr (by rw [← HG.out, ← HG.out]; exact ht))).symm.trans hsc.out)
              generalize hW3 : wr.drewN nq = W3
              have H3 : Hid (SW W0 W3 blk off e N dk) := Lib.hid (by rw [← hW3]; exact HS.out.drewN nq)
              have hc3 : ∀ t, t < n → W3.cell? ⟨blk, off + t, none⟩ = some (.int .u32 (G t)) := fun t ht => by rw [HG.out]; exact H3.out.cells t (by rw [Hsk.out]; exact ht)
              have hf3 : ∀ t, t < n → W3.frozen? ⟨blk, off + t, none⟩ = false := fun t ht => H3.out.free _
              clear hW3 hcw HS ht hsc
              go_wp2
              go_region
              all_goals go_upto_if 61 with (fail)
              have hsp : rowIs W0 blk off e N n (swp dk k (k - 1)) (((W3.drewN 1).setCell ⟨blk, off + k, none⟩ (.int .u32 (G (k - 1)))).setCell ⟨blk, off + (k - 1), none⟩ (.int .u32 (G k))) := ⟨swp dk k (k - 1), by rw [size_swp]; exact Hsk.out, by rw [HG.out, HG.out]; exact (H3.out.drewN 1).swap k (k - 1) (by rw [Hsk.out]; omega) (by rw [Hsk.out]; omega), rfl⟩
              have Hsp := Lib.hid hsp
              clear hsp
              go_cut [9] (fun _ wx => rowIs W0 blk off e N n (fixDown ltInt a k (swp dk k (k - 1))) wx)
              case first =>
                clear hc3 hf3
                obtain ⟨D1, hD1⟩ : ∃ D1, fixDown ltInt a k (swp dk k (k - 1)) = D1 := ⟨_, rfl⟩
                have HD1 := Lib.hid hD1
                obtain ⟨dm, hsm, hwm, hdm⟩ := Hsp.out
                by_cases h2 : 2 ≤ k - a
                · have hF : shiftDown ltInt (k - 1) dm = D1 := by rw [← hD1, hdm]; unfold fixDown; rw [if_pos h2]
                  have HF := Lib.hid hF
                  have HM := Lib.hid hwm
                  have Hsm := Lib.hid hsm
                  clear hD1 hsm hwm hdm hF
                  have h2z : (2 : Int) ≤ (k : Int) - (a : Int) := by omega
                  go_wp2_with fail
                  go_loopw [9] (fun vj wr => dnRel' W0 blk off e N n D1 k vj wr) (fun vj _ => (intOf vj).toNat)
                  case atStart => exact ⟨k - 1, dm, by go_num, by omega, Hsm.out, HM.out, HF.out⟩
                  case round =>
                    obtain ⟨j, dj, rfl, hjk, hsj, hswj, hOj⟩ := hrel
                    have HSj := Lib.hid hswj
                    have Hsj := Lib.hid hsj
                    have HOj := Lib.hid hOj
                    obtain ⟨Gj, hGj⟩ : ∃ Gj : Nat → Int, ∀ t, Gj t = dj[t]! := ⟨fun t => dj[t]!, fun _ => rfl⟩
                    have HGj := Lib.hid hGj
                    have hcj : ∀ t, t < n → wr.cell? ⟨blk, off + t, none⟩ = some (.int .u32 (Gj t)) := fun t ht => by rw [hGj]; exact hswj.cells t (by rw [hsj]; exact ht)
                    have hfj : ∀ t, t < n → wr.frozen? ⟨blk, off + t, none⟩ = false := fun t ht => hswj.free _
                    clear hswj hsj hOj hGj
                    by_cases hj0 : 0 < j
                    · go_wp2_with fail
                      go_big_quiet (first | (go_at_call 107; refine Calls.quiet_of_same (less _ _ _)))
                      go_wp2
                      · have hl : ltInt (Gj j) (Gj (j - 1)) = false := by
                          have : (!ltInt (Gj j) (Gj (j - 1))) = true := by assumption
                          simpa using this
                        go_meet
                        case rel => exact ⟨dj, Hsj.out, HSj.out.drewN nq, by rw [HD1.out, ← HOj.out, dn_end dj j (.inr (by rw [← HGj.out, ← HGj.out]; exact hl))]⟩
                      · have hl : ltInt (Gj j) (Gj (j - 1)) = true := by
                          have : (!ltInt (Gj j) (Gj (j - 1))) = false := by assumption
                          simpa using this
                        go_region
                        all_goals go_wp2
                        go_roundw
                        case rel => exact ⟨j - 1, swp dj j (j - 1), by go_num, by omega, by rw [size_swp]; exact Hsj.out, by rw [HGj.out, HGj.out]; exact (HSj.out.drewN (nq + 1)).swap j (j - 1) (by rw [Hsj.out]; omega) (by rw [Hsj.out]; omega), by rw [← HOj.out, dn_go dj j hj0 (by rw [← HGj.out, ← HGj.out]; exact hl)]⟩
                        case measure => simp [intOf]; omega
                    · obtain rfl : j = 0 := by omega
                      go_wp2
                      go_meet
                      case rel => exact ⟨dj, Hsj.out, HSj.out, by rw [HD1.out, ← HOj.out, dn_end dj 0 (.inl rfl)]⟩
                · have hF : dm = D1 := by rw [← hD1, hdm]; unfold fixDown; rw [if_neg h2]
                  have HF := Lib.hid hF
                  have HM := Lib.hid hwm
                  have Hsm := Lib.hid hsm
                  clear hD1 hsm hwm hdm hF
                  have h2z : ¬ (2 : Int) ≤ (k : Int) - (a : Int) := by omega
                  have h2y : decide ((2 : Int) ≤ (k : Int) - (a : Int)) = false := decide_eq_false h2z
                  go_wp2_with fail
                  go_meet
                  case rel => exact ⟨dm, Hsm.out, HM.out, HF.out.trans HD1.out.symm⟩
              case rest =>
                clear hc3 hf3 Hsp
                have Hcut := Lib.hid hcut
                clear hcut
                all_goals
                  obtain ⟨D2, hD2⟩ : ∃ D2, fixUp ltInt b k (fixDown ltInt a k (swp dk k (k - 1))) = D2 := ⟨_, rfl⟩
                  have fin : ∀ (dj : Array Int) (W : World), dj.size = n → SW W0 W blk off e N dj → dj = D2 → piRel W0 blk off e N n a b D (.int .i64 k) (.int .i64 (5 - ((s : Int) + 1) + 1)) W := fun dj W g1 g2 g3 => ⟨s, k, dj, rfl, by congr 1; omega, by omega, by omega, by omega, g1, g2, by rw [← HE.out, pi_go a b s i k dk hk2.out (by omega) h50, hD2, g3]⟩
                  have Fin := Lib.hid fin
                  clear fin
                  obtain ⟨dm, hsm, hwm, hdm⟩ := Hcut.out
                  by_cases h2 : 2 ≤ b - k
                  · have hF : shiftUp ltInt b (k + 1) dm = D2 := by rw [← hD2, ← hdm]; unfold fixUp; rw [if_pos h2]
                    have HF := Lib.hid hF
                    have HM := Lib.hid hwm
                    have Hsm := Lib.hid hsm
                    clear hD2 hsm hwm hdm hF
                    have h2z : (2 : Int) ≤ (b : Int) - (k : Int) := by omega
                    go_wp2_with fail
                    go_loopw [10] (fun vj wr => upRel' W0 blk off e N n D2 k b vj wr) (fun vj _ => b - (intOf vj).toNat)
                    case atStart => exact ⟨k + 1, dm, by go_num, by omega, by omega, Hsm.out, HM.out, HF.out⟩
                    case round =>
                      obtain ⟨j, dj, rfl, hkj, hjb, hsj, hswj, hOj⟩ := hrel
                      have HSj := Lib.hid hswj
                      have Hsj := Lib.hid hsj
                      have HOj := Lib.hid hOj
                      obtain ⟨Gj, hGj⟩ : ∃ Gj : Nat → Int, ∀ t, Gj t = dj[t]! := ⟨fun t => dj[t]!, fun _ => rfl⟩
                      have HGj := Lib.hid hGj
                      have hcj : ∀ t, t < n → wr.cell? ⟨blk, off + t, none⟩ = some (.int .u32 (Gj t)) := fun t ht => by rw [hGj]; exact hswj.cells t (by rw [hsj]; exact ht)
                      have hfj : ∀ t, t < n → wr.frozen? ⟨blk, off + t, none⟩ = false := fun t ht => hswj.free _
                      clear hswj hsj hOj hGj
                      by_cases hjb2 : j < b
                      · go_wp2_with fail
                        go_big_quiet (first | (go_at_call 107; refine Calls.quiet_of_same (less _ _ _)))
                        go_wp2
                        · have hl : ltInt (Gj j) (Gj (j - 1)) = false := by
                            have : (!ltInt (Gj j) (Gj (j - 1))) = true := by assumption
                            simpa using this
                          go_roundw
                          case rel => exact Fin.out dj _ Hsj.out (HSj.out.drewN nq) (by rw [← HOj.out, up_end dj b j (.inr (by rw [← HGj.out, ← HGj.out]; exact hl))])
                          case measure => simp [intOf]; omega
                        · have hl : ltInt (Gj j) (Gj (j - 1)) = true := by
                            have : (!ltInt (Gj j) (Gj (j - 1))) = false := by assumption
                            simpa using this
                          go_region
                          all_goals go_wp2
                          go_roundw
                          case rel => exact ⟨j + 1, swp dj j (j - 1), by go_num, by omega, by omega, by rw [size_swp]; exact Hsj.out, by rw [HGj.out, HGj.out]; exact (HSj.out.drewN (nq + 1)).swap j (j - 1) (by rw [Hsj.out]; omega) (by rw [Hsj.out]; omega), by rw [← HOj.out, up_go dj b j hjb2 (by rw [← HGj.out, ← HGj.out]; exact hl)]⟩
                          case measure => simp [intOf]; omega
                      · obtain rfl : j = b := by omega
                        go_wp2
                        go_roundw
                        case rel => exact Fin.out dj _ Hsj.out (HSj.out) (by rw [← HOj.out, up_end dj j j (.inl (by omega))])
                        case measure => simp [intOf]; omega
                  · have hF : dm = D2 := by rw [← hD2, ← hdm]; unfold fixUp; rw [if_neg h2]
                    have HF := Lib.hid hF
                    have HM := Lib.hid hwm
                    have Hsm := Lib.hid hsm
                    clear hD2 hsm hwm hdm hF
                    have h2z : ¬ (2 : Int) ≤ (b : Int) - (k : Int) := by omega
                    have h2y : decide ((2 : Int) ≤ (b : Int) - (k : Int)) = false := decide_eq_false h2z
                    go_wp2_with fail
                    go_roundw
                    case rel => exact Fin.out dm _ Hsm.out HM.out HF.out
                    case measure => simp [intOf]; omega
        · obtain rfl : k = b := by omega
          have hk2 := Lib.hid ((sc_end dk k k (.inl (by omega))).symm.trans hsc.out)
          go_wp2_with fail
          go_big_quiet (first | (go_at_call 107; refine Calls.quiet_of_same (less _ _ _)))
          go_wp2
          go_ret
          rw [← HE.out, pi_yes a k s i k dk hk2.out rfl]
          exact ⟨rfl, HS.out.drewN nq⟩
end Go.Proofs.Ytldmglodjafklaa.Srt
