/- The library's sort at rows of uint32: siftDownOrdered, heapSortOrdered. -/
import Derived.Test.YtldmglodjafklaaSrtA
namespace Go.Proofs.Ytldmglodjafklaa.Srt
open Go.RowKit Go.Sort
set_option linter.unusedVariables false
section
variable (lt : Int → Int → Bool)
theorem sd_stop (hi F r : Nat) (d : Array Int) (h : hi ≤ 2 * r + 1) : siftDown lt hi F r d = d := by rw [siftDown, dif_pos (by omega)]
theorem sd_two (hi F r : Nat) (d : Array Int) (h : 2 * r + 2 < hi) (hl : lt d[F + (2 * r + 1)]! d[F + (2 * r + 1) + 1]! = true) :
    siftDown lt hi F r d = if lt d[F + r]! d[F + (2 * r + 2)]! = false then d else siftDown lt hi F (2 * r + 2) (swp d (F + r) (F + (2 * r + 2))) := by
  rw [siftDown, dif_neg (by omega), if_pos (by rw [hl, Bool.and_true]; exact decide_eq_true (by omega))]
  cases lt d[F + r]! d[F + (2 * r + 2)]! with
  | false => rfl
  | true => rw [if_neg (by simp), dif_pos h, if_neg (by simp)]
theorem sd_one (hi F r : Nat) (d : Array Int) (h1 : 2 * r + 1 < hi) (h : ¬ 2 * r + 2 < hi ∨ lt d[F + (2 * r + 1)]! d[F + (2 * r + 1) + 1]! = false) :
    siftDown lt hi F r d = if lt d[F + r]! d[F + (2 * r + 1)]! = false then d else siftDown lt hi F (2 * r + 1) (swp d (F + r) (F + (2 * r + 1))) := by
  rw [siftDown, dif_neg (by omega), if_neg]
  · cases lt d[F + r]! d[F + (2 * r + 1)]! with
    | false => rfl
    | true => rw [if_neg (by simp), if_neg (by simp)]
  · rw [Bool.and_eq_true, decide_eq_true_eq]
    rintro ⟨g1, g2⟩
    rcases h with h | h
    · omega
    · rw [h] at g2; cases g2
end
def sdRel (W0 : World) (blk off : Nat) (e : TypeId) (N : Nat) (d : Array Int) (hi F lo : Nat) (vr : Value) (wr : World) : Prop :=
  ∃ (r : Nat) (dk : Array Int), vr = .int .i64 r ∧ lo ≤ r ∧ (r = lo ∨ r < hi) ∧ dk.size = d.size ∧ SW W0 wr blk off e N dk ∧ siftDown ltInt hi F r dk = siftDown ltInt hi F lo d
set_option maxRecDepth 100000 in
set_option maxHeartbeats 2000000 in
theorem siftDown_any {W0 w : World} {blk off : Nat} {e : TypeId} {N : Nat} {d : Array Int} (h : SW W0 w blk off e N d) (cap lo hi F : Nat) (hb : F + hi ≤ d.size) (hl : lo ≤ d.size) (hsz : d.size < 4611686018427387904) :
    Calls Try.prog 116 #[.slice (some ⟨blk, off, none⟩) d.size cap, .int .i64 lo, .int .i64 hi, .int .i64 F] w fun x w' => x = .returned (.tuple #[]) ∧ SW W0 w' blk off e N (Sort.siftDown ltInt hi F lo d) := by
  have H := Lib.hid h
  clear h
  generalize hn : d.size = n at *
  have Hn := Lib.hid hn
  clear hn
  go_enter Try.func116, Try.ntmps116
  go_wp2
  go_loopw [8, 9] (fun vr _ wr => sdRel W0 blk off e N d hi F lo vr wr) (fun vr _ _ => hi - (intOf vr).toNat)
  case atStart => exact ⟨lo, d, by go_num, by omega, .inl rfl, rfl, H.out, rfl⟩
  case round =>
    obtain ⟨r, dk, rfl, hlr, hrh, hsk, hsw, hO⟩ := hrel
    have hsk2 := hsk.trans Hn.out
    obtain ⟨G, hG⟩ : ∃ G : Nat → Int, ∀ t, G t = dk[t]! := ⟨fun t => dk[t]!, fun _ => rfl⟩
    have hcw : ∀ t, t < n → wr.cell? ⟨blk, off + t, none⟩ = some (.int .u32 (G t)) := fun t ht => by rw [hG]; exact hsw.cells t (by omega)
    have HG := Lib.hid hG
    have HO := Lib.hid hO
    have HS := Lib.hid hsw
    have Hsk := Lib.hid hsk
    have Hsk2 := Lib.hid hsk2
    clear hO hsw hsk hG hsk2
    by_cases h1 : 2 * r + 1 < hi
    · have step : ∀ (c : Nat) (hc : c < hi) (hrc : r < c) (q : Nat) (W : World) (hW : SW W0 W blk off e N dk) (hm : siftDown ltInt hi F r dk = if ltInt dk[F + r]! dk[F + c]! = false then dk else siftDown ltInt hi F c (swp dk (F + r) (F + c))) (hl : ltInt (G (F + r)) (G (F + c)) = true),
          sdRel W0 blk off e N d hi F lo (.int .i64 (c : Int)) (((W.drewN q).setCell ⟨blk, off + (F + r), none⟩ (.int .u32 (G (F + c)))).setCell ⟨blk, off + (F + c), none⟩ (.int .u32 (G (F + r)))) := by
        intro c hc hrc q W hW hm hl
        refine ⟨c, swp dk (F + r) (F + c), rfl, by omega, .inr hc, by rw [size_swp]; exact Hsk.out, ?_, ?_⟩
        · rw [HG.out, HG.out]
          exact (hW.drewN q).swap (F + r) (F + c) (by rw [Hsk2.out]; omega) (by rw [Hsk2.out]; omega)
        · rw [← HO.out, hm, if_neg (by rw [← HG.out, ← HG.out, hl]; simp)]
      have fin : ∀ (c q : Nat) (W : World) (hW : SW W0 W blk off e N dk) (hm : siftDown ltInt hi F r dk = if ltInt dk[F + r]! dk[F + c]! = false then dk else siftDown ltInt hi F c (swp dk (F + r) (F + c))) (hl : ltInt (G (F + r)) (G (F + c)) = false),
          SW W0 (W.drewN q) blk off e N (Sort.siftDown ltInt hi F lo d) := by
        intro c q W hW hm hl
        rw [← HO.out, hm, if_pos (by rw [← HG.out, ← HG.out, hl])]
        exact hW.drewN q
      have Step := Lib.hid step
      have Fin := Lib.hid fin
      clear step fin
      have hr : r < n := by omega
      have h1z : ¬ ((hi : Int) ≤ 2 * (r : Int) + 1) := by omega
      -- WAYS
      by_cases h2 : 2 * r + 2 < hi
      · have h2z : 2 * (r : Int) + 1 + 1 < (hi : Int) := by omega
        go_wp2_with fail
        go_big_quiet (first | (go_at_call 107; refine Calls.quiet_of_same (less _ _ _)))
        go_wp2_with fail
        · have hl : ltInt (G (F + 2 * r + 1)) (G (F + 2 * r + 2)) = true := by assumption
          have Hm := Lib.hid (sd_two ltInt hi F r dk h2 (by have := hl; rw [HG.out, HG.out] at this; exact this))
          generalize hW2 : wr.drewN nq = W2
          have hcw2 : ∀ t, t < n → W2.cell? ⟨blk, off + t, none⟩ = some (.int .u32 (G t)) := fun t ht => by rw [← hW2]; exact hcw t ht
          have hfw2 : ∀ t, t < n → W2.frozen? ⟨blk, off + t, none⟩ = false := fun t ht => by rw [← hW2]; exact HS.out.free _
          have HS2 : Hid (SW W0 W2 blk off e N dk) := by rw [← hW2]; exact HS.out.drewN nq
          clear hW2 hcw nq
          go_big_quiet (first | (go_at_call 107; refine Calls.quiet_of_same (less _ _ _)))
          go_wp2_with fail
          · have hl2 : ltInt (G (F + r)) (G (F + 2 * r + 2)) = false := by
              have : (!ltInt (G (F + r)) (G (F + 2 * r + 2))) = true := by assumption
              simpa using this
            (try simp only [Exit.inBlock, Exit.then]); refine bodyPost_ret (results_none rfl _ _ _) rfl ?_
            exact ⟨rfl, Fin.out (2 * r + 2) nq W2 HS2.out Hm.out hl2⟩
          · have hl2 : ltInt (G (F + r)) (G (F + 2 * r + 2)) = true := by
              have : (!ltInt (G (F + r)) (G (F + 2 * r + 2))) = false := by assumption
              simpa using this
            have hS := Lib.hid (Step.out (2 * r + 2) (by omega) (by omega) (nq + 1) W2 HS2.out Hm.out hl2)
            generalize hW3 : W2.drewN nq = W3 at *
            have hcw3 : ∀ t, t < n → W3.cell? ⟨blk, off + t, none⟩ = some (.int .u32 (G t)) := fun t ht => by rw [← hW3]; exact hcw2 t ht
            have hfw3 : ∀ t, t < n → W3.frozen? ⟨blk, off + t, none⟩ = false := fun t ht => by rw [← hW3]; exact hfw2 t ht
            have HW3 := Lib.hid hW3
            clear hcw2 hfw2 hW3
            go_region
            go_wp2
            go_roundw
            case rel => rw [← HW3.out]; exact hS.out
            case measure => simp [intOf]; omega
        · have hl : ltInt (G (F + 2 * r + 1)) (G (F + 2 * r + 2)) = false := by assumption
          have Hm := Lib.hid (sd_one ltInt hi F r dk h1 (.inr (by have := hl; rw [HG.out, HG.out] at this; exact this)))
          generalize hW2 : wr.drewN nq = W2
          have hcw2 : ∀ t, t < n → W2.cell? ⟨blk, off + t, none⟩ = some (.int .u32 (G t)) := fun t ht => by rw [← hW2]; exact hcw t ht
          have hfw2 : ∀ t, t < n → W2.frozen? ⟨blk, off + t, none⟩ = false := fun t ht => by rw [← hW2]; exact HS.out.free _
          have HS2 : Hid (SW W0 W2 blk off e N dk) := by rw [← hW2]; exact HS.out.drewN nq
          clear hW2 hcw nq
          go_big_quiet (first | (go_at_call 107; refine Calls.quiet_of_same (less _ _ _)))
          go_wp2_with fail
          · have hl2 : ltInt (G (F + r)) (G (F + 2 * r + 1)) = false := by
              have : (!ltInt (G (F + r)) (G (F + 2 * r + 1))) = true := by assumption
              simpa using this
            (try simp only [Exit.inBlock, Exit.then]); refine bodyPost_ret (results_none rfl _ _ _) rfl ?_
            exact ⟨rfl, Fin.out (2 * r + 1) nq W2 HS2.out Hm.out hl2⟩
          · have hl2 : ltInt (G (F + r)) (G (F + 2 * r + 1)) = true := by
              have : (!ltInt (G (F + r)) (G (F + 2 * r + 1))) = false := by assumption
              simpa using this
            have hS := Lib.hid (Step.out (2 * r + 1) (by omega) (by omega) (nq + 1) W2 HS2.out Hm.out hl2)
            generalize hW3 : W2.drewN nq = W3 at *
            have hcw3 : ∀ t, t < n → W3.cell? ⟨blk, off + t, none⟩ = some (.int .u32 (G t)) := fun t ht => by rw [← hW3]; exact hcw2 t ht
            have hfw3 : ∀ t, t < n → W3.frozen? ⟨blk, off + t, none⟩ = false := fun t ht => by rw [← hW3]; exact hfw2 t ht
            have HW3 := Lib.hid hW3
            clear hcw2 hfw2 hW3
            go_region
            go_wp2
            go_roundw
            case rel => rw [← HW3.out]; exact hS.out
            case measure => simp [intOf]; omega
      · have h2z : decide (2 * (r : Int) + 1 + 1 < (hi : Int)) = false := decide_eq_false (by omega)
        have Hm := Lib.hid (sd_one ltInt hi F r dk h1 (.inl h2))
        go_wp2_with fail
        go_big_quiet (first | (go_at_call 107; refine Calls.quiet_of_same (less _ _ _)))
        go_wp2_with fail
        generalize hW2 : wr.drewN nq = W2
        have hcw2 : ∀ t, t < n → W2.cell? ⟨blk, off + t, none⟩ = some (.int .u32 (G t)) := fun t ht => by rw [← hW2]; exact hcw t ht
        have hfw2 : ∀ t, t < n → W2.frozen? ⟨blk, off + t, none⟩ = false := fun t ht => by rw [← hW2]; exact HS.out.free _
        have HS2 : Hid (SW W0 W2 blk off e N dk) := by rw [← hW2]; exact HS.out.drewN nq
        clear hW2 hcw nq
        go_big_quiet (first | (go_at_call 107; refine Calls.quiet_of_same (less _ _ _)))
        go_wp2_with fail
        · have hl2 : ltInt (G (F + r)) (G (F + 2 * r + 1)) = false := by
            have : (!ltInt (G (F + r)) (G (F + 2 * r + 1))) = true := by assumption
            simpa using this
          (try simp only [Exit.inBlock, Exit.then]); refine bodyPost_ret (results_none rfl _ _ _) rfl ?_
          exact ⟨rfl, Fin.out (2 * r + 1) nq W2 HS2.out Hm.out hl2⟩
        · have hl2 : ltInt (G (F + r)) (G (F + 2 * r + 1)) = true := by
            have : (!ltInt (G (F + r)) (G (F + 2 * r + 1))) = false := by assumption
            simpa using this
          have hS := Lib.hid (Step.out (2 * r + 1) (by omega) (by omega) (nq + 1) W2 HS2.out Hm.out hl2)
          generalize hW3 : W2.drewN nq = W3 at *
          have hcw3 : ∀ t, t < n → W3.cell? ⟨blk, off + t, none⟩ = some (.int .u32 (G t)) := fun t ht => by rw [← hW3]; exact hcw2 t ht
          have hfw3 : ∀ t, t < n → W3.frozen? ⟨blk, off + t, none⟩ = false := fun t ht => by rw [← hW3]; exact hfw2 t ht
          have HW3 := Lib.hid hW3
          clear hcw2 hfw2 hW3
          go_region
          go_wp2
          go_roundw
          case rel => rw [← HW3.out]; exact hS.out
          case measure => simp [intOf]; omega
      -- END
    · go_wp2
      go_end0
      exact ⟨rfl, by rw [← HO.out, sd_stop _ _ _ _ _ (by omega)]; exact HS.out⟩
def hbRel (W0 : World) (blk off : Nat) (e : TypeId) (N : Nat) (d : Array Int) (hi F : Nat) (vi : Value) (wr : World) : Prop :=
  ∃ (k : Nat) (dk : Array Int), vi = .int .i64 ((k : Int) - 1) ∧ k ≤ (hi - 1) / 2 + 1 ∧ dk.size = d.size ∧ SW W0 wr blk off e N dk ∧ heapBuild ltInt hi F k dk = heapBuild ltInt hi F ((hi - 1) / 2 + 1) d
def hpRel (W0 : World) (blk off : Nat) (e : TypeId) (N : Nat) (d : Array Int) (hi F : Nat) (D : Array Int) (vi : Value) (wr : World) : Prop :=
  ∃ (k : Nat) (dk : Array Int), vi = .int .i64 ((k : Int) - 1) ∧ k ≤ hi ∧ dk.size = d.size ∧ SW W0 wr blk off e N dk ∧ heapPop ltInt F k dk = D
theorem size_siftDown (hi F r : Nat) (d : Array Int) (h : F + hi ≤ d.size) : (siftDown ltInt hi F r d).size = d.size := by
  rw [siftDown]
  split
  · rfl
  · split
    · split
      · rfl
      · split
        · rw [size_siftDown hi F (2 * r + 2) _ (by rw [size_swp]; exact h), size_swp]
        · rfl
    · split
      · rfl
      · rw [size_siftDown hi F (2 * r + 1) _ (by rw [size_swp]; exact h), size_swp]
termination_by hi - r
set_option maxRecDepth 100000 in
set_option maxHeartbeats 2000000 in
theorem heapSort_any {W0 w : World} {blk off : Nat} {e : TypeId} {N : Nat} {d : Array Int} (h : SW W0 w blk off e N d) (cap a b : Nat) (hab : a < b) (hb : b ≤ d.size) (hsz : d.size < 4611686018427387904) :
    Calls Try.prog 102 #[.slice (some ⟨blk, off, none⟩) d.size cap, .int .i64 a, .int .i64 b] w fun x w' => x = .returned (.tuple #[]) ∧ SW W0 w' blk off e N (Sort.heapSort ltInt d a b) := by
  have H := Lib.hid h
  clear h
  have hE := Lib.hid (show Sort.heapSort ltInt d a b = heapPop ltInt a (b - a) (heapBuild ltInt (b - a) a ((b - a - 1) / 2 + 1) d) from rfl)
  obtain ⟨l, hl⟩ : ∃ l, b - a = l := ⟨_, rfl⟩
  rw [hl] at hE
  have hbl : a + l ≤ b := by omega
  have hbd : (b : Int) - (a : Int) = (l : Int) := by omega
  have hl0 : 0 < l := by omega
  clear hl
  generalize hn : d.size = n at *
  have Hn := Lib.hid hn
  clear hn
  go_enter Try.func102, Try.ntmps102
  go_wp2
  go_loopw [9] (fun vi wr => hbRel W0 blk off e N d l a vi wr) (fun vi _ => (intOf vi + 1).toNat)
  case atStart => exact ⟨(l - 1) / 2 + 1, d, by go_num, Nat.le_refl _, rfl, H.out, rfl⟩
  case round =>
    obtain ⟨k, dk, rfl, hk, hsk, hsw, hO⟩ := hrel
    have hsk2 := hsk.trans Hn.out
    have HO := Lib.hid hO
    have HS := Lib.hid hsw
    have Hsk := Lib.hid hsk
    cases k with
    | succ k =>
      have hc := siftDown_any hsw cap k l a (by omega) (by omega) (by omega)
      rw [hsk2] at hc
      have HC := Lib.hid hc
      have Hz := Lib.hid ((size_siftDown l a k dk (by omega)).trans hsk)
      clear hO hsw hsk hsk2 hc
      go_wp2_with fail
      refine HC.out.mono ?_
      rintro x w1 ⟨rfl, h1⟩
      go_wp2
      go_roundw
      case rel => exact ⟨k, _, by go_num, by omega, Hz.out, h1, by rw [← HO.out]; rfl⟩
      case measure => simp [intOf] <;> omega
    | zero =>
      have hO2 : heapPop ltInt a l dk = Sort.heapSort ltInt d a b := by rw [hE.out, ← hO]; rfl
      have HO2 := Lib.hid hO2
      clear hO hsw hsk hsk2 hO2
      rw [show (((0 : Nat) : Int) - 1) = -1 from rfl]
      go_wp2
      rename World => W1
      go_loopw [10] (fun vi wr => hpRel W0 blk off e N d l a (Sort.heapSort ltInt d a b) vi wr) (fun vi _ => (intOf vi + 1).toNat)
      case atStart => exact ⟨l, dk, by go_num, Nat.le_refl _, Hsk.out, HS.out, HO2.out⟩
      case round =>
        clear HO HS Hsk HO2 dk
        obtain ⟨k, dk, rfl, hk, hsk, hsw, hO⟩ := hrel
        have hsk2 := hsk.trans Hn.out
        have HO := Lib.hid hO
        have HS := Lib.hid hsw
        have Hsk := Lib.hid hsk
        cases k with
        | succ k =>
          have hs2 := (hsw.drewN 1).swap a (a + k) (by omega) (by omega)
          have hc := siftDown_any hs2 cap 0 k a (by rw [size_swp]; omega) (by omega) (by rw [size_swp]; omega)
          rw [size_swp, hsk2] at hc
          obtain ⟨G, hG⟩ : ∃ G : Nat → Int, ∀ t, G t = dk[t]! := ⟨fun t => dk[t]!, fun _ => rfl⟩
          have hcw : ∀ t, t < n → wr.cell? ⟨blk, off + t, none⟩ = some (.int .u32 (G t)) := fun t ht => by rw [hG]; exact hsw.cells t (by omega)
          have hfw : ∀ t, t < n → wr.frozen? ⟨blk, off + t, none⟩ = false := fun t ht => hsw.free _
          rw [← hG, ← hG] at hc
          have HC := Lib.hid hc
          have Hz := Lib.hid (((size_siftDown k a 0 (swp dk a (a + k)) (by rw [size_swp]; omega)).trans (size_swp _ _ _)).trans hsk)
          clear hO hsw hsk hsk2 hc hs2 hG
          rw [show (((k + 1 : Nat) : Int) - 1) = (k : Int) by omega]
          cases k with
          | zero =>
            rw [show (((0 : Nat) : Int)) = 0 from rfl]
            go_wp2
            go_region
            all_goals go_wp2_with fail
            refine HC.out.mono ?_
            rintro x w1 ⟨rfl, h1⟩
            go_wp2
            go_roundw
            case rel => exact ⟨0, _, by go_num, by omega, Hz.out, h1, by rw [← HO.out]; rfl⟩
            case measure => simp [intOf] <;> omega
          | succ k =>
            go_wp2
            go_region
            all_goals go_wp2_with fail
            refine HC.out.mono ?_
            rintro x w1 ⟨rfl, h1⟩
            go_wp2
            go_roundw
            case rel => exact ⟨k + 1, _, by go_num, by omega, Hz.out, h1, by rw [← HO.out]; rfl⟩
            case measure => simp [intOf] <;> omega
        | zero =>
          clear hO hsw hsk hsk2
          rw [show (((0 : Nat) : Int) - 1) = -1 from rfl]
          go_wp2
          go_end0
          exact ⟨rfl, by rw [← HO.out]; exact HS.out⟩
end Go.Proofs.Ytldmglodjafklaa.Srt
