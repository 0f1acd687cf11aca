/- The library's sort at rows of uint32: pdqsortOrdered, slices.Sort. -/
import Derived.Test.YtldmglodjafklaaSrtB
import Derived.Test.YtldmglodjafklaaSrtC
import Derived.Test.YtldmglodjafklaaSrtD
import Derived.Test.YtldmglodjafklaaSrtE
import Derived.Test.YtldmglodjafklaaSrtF
namespace Go.Proofs.Ytldmglodjafklaa.Srt
open Go.RowKit Go.Sort
set_option linter.unusedVariables false
def PQ (W0 : World) (blk off : Nat) (e : TypeId) (N : Nat) (d : Array Int) (a b : Nat) (x : Ending) (w' : World) : Prop :=
  ∃ d' : Array Int, x = .returned (.tuple #[]) ∧ PermIn a b d d' ∧ SortedIn ltInt a b d' ∧ SW W0 w' blk off e N d'
/-- Whatever sorted permutation of the part comes, the whole is one. -/
def Glue (d dk : Array Int) (a b p q : Nat) : Prop := ∀ D, PermIn p q dk D → SortedIn ltInt p q D → PermIn a b d D ∧ SortedIn ltInt a b D
def pdRel (W0 : World) (blk off : Nat) (e : TypeId) (N n : Nat) (d : Array Int) (a b : Nat) (s1 s2 s3 s8 s9 : Value) (wr : World) : Prop :=
  ∃ (p q lim : Nat) (wb wp : Bool) (dk : Array Int), s1 = .int .i64 p ∧ s2 = .int .i64 q ∧ s3 = .int .i64 lim ∧ s8 = .bool wb ∧ s9 = .bool wp ∧ a ≤ p ∧ p ≤ q ∧ q ≤ b ∧ lim ≤ 64 ∧ dk.size = n ∧ SW W0 wr blk off e N dk ∧ Sort.Below ltInt p q dk ∧ Glue d dk a b p q
def brRel (W0 : World) (blk off : Nat) (e : TypeId) (N : Nat) (dk : Array Int) (p q : Nat) (s3 : Value) (wr : World) : Prop :=
  ∃ (lim : Nat) (d1 : Array Int), s3 = .int .i64 lim ∧ lim ≤ 64 ∧ PermIn p q dk d1 ∧ SW W0 wr blk off e N d1
def rvRel (W0 : World) (blk off : Nat) (e : TypeId) (N : Nat) (dk : Array Int) (p q : Nat) (s11 s12 : Value) (wr : World) : Prop :=
  ∃ (pv : Nat) (h : Int) (d2 : Array Int), s11 = .int .i64 pv ∧ s12 = .int .i64 h ∧ p ≤ pv ∧ pv < q ∧ PermIn p q dk d2 ∧ SW W0 wr blk off e N d2
def prRel (W0 : World) (blk off : Nat) (e : TypeId) (N : Nat) (dk : Array Int) (p q : Nat) (wr : World) : Prop :=
  ∃ d2 : Array Int, PermIn p q dk d2 ∧ SW W0 wr blk off e N d2
def bRel (W0 : World) (blk off : Nat) (e : TypeId) (N : Nat) (d2 : Array Int) (s : Value) (wr : World) : Prop := ∃ c : Bool, s = .bool c ∧ SW W0 wr blk off e N d2
theorem partition_post {W0 w : World} {blk off : Nat} {e : TypeId} {N : Nat} {d : Array Int} (h : SW W0 w blk off e N d) (cap a b pivot : Nat) (hap : a ≤ pivot) (hpb : pivot < b) (hb : b ≤ d.size) (hsz : d.size < 4611686018427387904) :
    Calls Try.prog 109 #[.slice (some ⟨blk, off, none⟩) d.size cap, .int .i64 a, .int .i64 b, .int .i64 pivot] w fun x w' => ∃ ap : Bool, x = .returned (.tuple #[.int .i64 (Sort.partition ltInt d a b pivot).1, .bool ap]) ∧ SW W0 w' blk off e N (Sort.partition ltInt d a b pivot).2.2 :=
  (partition_any h cap a b pivot hap hpb hb hsz).mono fun x w' ⟨ap, h1, h2⟩ => ⟨ap, by rw [h1, partition_fst], by rw [partition_arr]; exact h2⟩
set_option maxRecDepth 100000 in
set_option maxHeartbeats 8000000 in
theorem pdqsort (W0 : World) (blk off : Nat) (e : TypeId) (N cap n : Nat) (hsz : n < 65536) : ∀ (m : Nat) (w : World) (d : Array Int) (a b lim : Nat), b - a ≤ m → SW W0 w blk off e N d → d.size = n → a ≤ b → b ≤ n → lim ≤ 64 → Sort.Below ltInt a b d →
    Calls Try.prog 81 #[.slice (some ⟨blk, off, none⟩) n cap, .int .i64 a, .int .i64 b, .int .i64 lim] w (PQ W0 blk off e N d a b) := by
  intro m
  induction m with
  | zero =>
    intro w d a b lim hm h hn hab hb hlim hB
    obtain rfl : a = b := by omega
    subst hn
    have k1 := Lib.hid (insertionSort h cap a a (Nat.le_refl _) hb (by omega))
    have HI := Lib.hid (insertionSort_holds (lt := ltInt) swo_ltInt d a a (Nat.le_refl _) hb)
    clear h
    generalize d.size = n at *
    go_enter Try.func81, Try.ntmps81
    go_wp2
    refine wp_loop_rounds 1 ?_
    rw [rounds_succ]
    go_wp2_with ((with_reducible refine k1.out.mono ?_); rintro x w1 ⟨rfl, h1⟩)
    (try simp only [Exit.inBlock, Exit.then]); refine bodyPost_ret (results_none rfl _ _ _) rfl ?_
    exact ⟨_, rfl, HI.out.1, HI.out.2, h1⟩
  | succ m ih =>
    intro w d a b lim hm h hn hab hb hlim hB
    have Ih := Lib.hid ih
    have Hn := Lib.hid hn
    have H := Lib.hid h
    have HB := Lib.hid hB
    clear ih h hn hB
    go_enter Try.func81, Try.ntmps81
    go_wp2
    go_loopw [1, 2, 3, 8, 9] (fun s1 s2 s3 s8 s9 wr => pdRel W0 blk off e N n d a b s1 s2 s3 s8 s9 wr) (fun s1 s2 _ _ _ _ => (intOf s2).toNat - (intOf s1).toNat)
    case atStart => exact ⟨a, b, lim, true, true, d, rfl, rfl, rfl, rfl, rfl, Nat.le_refl _, hab, Nat.le_refl _, hlim, Hn.out, H.out, HB.out, fun D h1 h2 => ⟨h1, h2⟩⟩
    case round =>
      clear hlim
      obtain ⟨p, q, lim, wb, wp, dk, rfl, rfl, rfl, rfl, rfl, hap, hpq, hqb, hlim, hsk, hsw, hbl, hgl⟩ := hrel
      have HS := Lib.hid hsw
      have Hsk := Lib.hid hsk
      have Hbl := Lib.hid hbl
      have Hgl := Lib.hid hgl
      clear hsw hsk hbl hgl
      by_cases h12 : q - p ≤ 12
      · have h12z : (q : Int) - (p : Int) ≤ 12 := by omega
        have k1 := insertionSort HS.out cap p q hpq (by rw [Hsk.out]; omega) (by rw [Hsk.out]; omega)
        rw [Hsk.out] at k1
        have K1 := Lib.hid k1
        clear k1
        have HI := Lib.hid (insertionSort_holds (lt := ltInt) swo_ltInt dk p q hpq (by rw [Hsk.out]; omega))
        go_wp2_with ((with_reducible refine K1.out.mono ?_); rintro x w1 ⟨rfl, h1⟩)
        (try simp only [Exit.inBlock, Exit.then]); refine bodyPost_ret (results_none rfl _ _ _) rfl ?_
        obtain ⟨g1, g2⟩ := Hgl.out _ HI.out.1 HI.out.2
        exact ⟨_, rfl, g1, g2, h1⟩
      · have h12z : ¬ (q : Int) - (p : Int) ≤ 12 := by omega
        by_cases hl0 : lim = 0
        · subst hl0
          have k1 := heapSort_any HS.out cap p q (by omega) (by rw [Hsk.out]; omega) (by rw [Hsk.out]; omega)
          rw [Hsk.out] at k1
          have K1 := Lib.hid k1
          clear k1
          have HI := Lib.hid (heapSort_holds (lt := ltInt) swo_ltInt dk p q hpq (by rw [Hsk.out]; omega))
          go_wp2_with ((with_reducible refine K1.out.mono ?_); rintro x w1 ⟨rfl, h1⟩)
          (try simp only [Exit.inBlock, Exit.then]); refine bodyPost_ret (results_none rfl _ _ _) rfl ?_
          obtain ⟨g1, g2⟩ := Hgl.out _ HI.out.1 HI.out.2
          exact ⟨_, rfl, g1, g2, h1⟩
        · have hlz : ((lim : Int) == 0) = false := by simpa using hl0
          go_upto_if 35 with (fail)
          go_cut [3] (fun s3 wx => brRel W0 blk off e N dk p q s3 wx)
          case first =>
            cases wb with
            | true =>
              go_wp2_with fail
              go_meet
              case rel => exact ⟨lim, dk, rfl, hlim, permIn_refl _ _ _, HS.out⟩
            | false =>
              have k1 := breakPatterns HS.out cap p q (by omega) (by rw [Hsk.out]; omega) (by rw [Hsk.out]; omega)
              rw [Hsk.out] at k1
              have K1 := Lib.hid k1
              clear k1
              go_wp2_with ((with_reducible refine K1.out.mono ?_); rintro x w1 ⟨d1, rfl, hp1, h1⟩)
              go_meet
              case rel => exact ⟨lim - 1, d1, by congr 1; omega, by omega, hp1, h1⟩
          case rest =>
            obtain ⟨lim1, d1, rfl, hlim1, hp1, h1⟩ := hcut
            have hs1 := hp1.1.trans Hsk.out
            have H1 := Lib.hid h1
            have Hs1 := Lib.hid hs1
            have k1 := choosePivot h1 cap p q (by omega) (by rw [hs1]; omega) (by rw [hs1]; omega)
            rw [hs1] at k1
            have K1 := Lib.hid k1
            have Hp1 := Lib.hid hp1
            clear k1 h1 hs1 hp1
            go_upto_if 50 with ((with_reducible refine K1.out.mono ?_); rintro x w1 ⟨pv, hk, rfl, g1, g2, g3, h2⟩)
            go_cut [11, 12] (fun s11 s12 wx => rvRel W0 blk off e N d1 p q s11 s12 wx)
            case first =>
              have H2 := Lib.hid h2
              clear h2
              by_cases hk2 : hk = 2
              · subst hk2
                have k1 := reverseRange H2.out cap p q (by omega) (by rw [Hs1.out]; omega) (by rw [Hs1.out]; omega)
                rw [Hs1.out] at k1
                have K2 := Lib.hid k1
                clear k1 g3
                have HR := Lib.hid (reverseRange_holds (α := Int) d1 p q (by omega) (by rw [Hs1.out]; omega))
                go_wp2_with ((with_reducible refine K2.out.mono ?_); rintro x w2 ⟨rfl, h3⟩)
                go_meet
                case rel => exact ⟨q - 1 - (pv - p), 1, _, by congr 1; omega, rfl, by omega, by omega, HR.out, h3⟩
              · have hkz : (hk == 2) = false := by simpa using hk2
                go_wp2_with fail
                go_meet
                case rel => exact ⟨pv, hk, d1, rfl, rfl, g1, g2, permIn_refl _ _ _, H2.out⟩
            case rest =>
              clear g1 g2 g3 h2 pv hk w1
              obtain ⟨pv, hk, d2, rfl, rfl, g1, g2, hp2, h2⟩ := hcut
              have hp12 := permIn_trans _ _ _ _ _ Hp1.out hp2
              have hs2 := hp12.1.trans Hsk.out
              have H2 := Lib.hid h2
              have Hs2 := Lib.hid hs2
              have Hp2 := Lib.hid hp12
              have Hb2 := Lib.hid (Sort.Below.perm Hbl.out (by rw [Hsk.out]; omega) hp12)
              clear h2 hs2 hp2 hp12 H1 Hs1 K1 Hp1
              go_upto_region 15 with (fail)
              go_cut [68] (fun s wx => bRel W0 blk off e N d2 s wx)
              case first =>
                by_cases hk1 : hk = 1
                · subst hk1
                  cases wb <;> cases wp
                  all_goals
                    go_wp2_with fail
                    go_meet
                    case rel => exact ⟨_, rfl, H2.out⟩
                · have hkz : (hk == 1) = false := by simpa using hk1
                  cases wb <;> cases wp
                  all_goals
                    go_wp2_with fail
                    go_meet
                    case rel => exact ⟨_, rfl, H2.out⟩
              case rest =>
                clear H2
                obtain ⟨c, rfl, h2⟩ := hcut
                have H2 := Lib.hid h2
                clear h2
                go_upto_if 68 with (fail)
                go_cut [13] (fun _ wx => prRel W0 blk off e N dk p q wx)
                case first =>
                  cases c with
                  | false =>
                    go_wp2_with fail
                    go_meet
                    case rel => exact ⟨d2, Hp2.out, H2.out⟩
                  | true =>
                    have k1 := partialInsertionSort_any H2.out cap p q (by omega) (by rw [Hs2.out]; omega) (by rw [Hs2.out]; omega)
                    rw [Hs2.out] at k1
                    have HR := Lib.hid (partialInsertionSort_holds (lt := ltInt) swo_ltInt d2 p q (by omega) (by rw [Hs2.out]; omega) Hb2.out)
                    generalize Sort.partialInsertionSort ltInt d2 p q = R at *
                    obtain ⟨d3, r⟩ := R
                    have K2 := Lib.hid k1
                    clear k1
                    cases r with
                    | true =>
                      go_wp2_with ((with_reducible refine K2.out.mono ?_); rintro x w2 ⟨rfl, h3⟩)
                      (try simp only [Exit.inBlock, Exit.then]); refine bodyPost_ret (results_none rfl _ _ _) rfl ?_
                      obtain ⟨g1, g2⟩ := Hgl.out _ (permIn_trans _ _ _ _ _ Hp2.out HR.out.1) (HR.out.2 (by trivial))
                      exact ⟨_, rfl, g1, g2, h3⟩
                    | false =>
                      go_wp2_with ((with_reducible refine K2.out.mono ?_); rintro x w2 ⟨rfl, h3⟩)
                      go_meet
                      case rel => exact ⟨d3, permIn_trans _ _ _ _ _ Hp2.out HR.out.1, h3⟩
                case rest =>
                  clear Hs2 Hp2 Hb2 H2 d2
                  obtain ⟨d2, hp2, h2⟩ := hcut
                  have hs2 := hp2.1.trans Hsk.out
                  obtain ⟨G, hG⟩ : ∃ G : Nat → Int, ∀ t, G t = d2[t]! := ⟨fun t => d2[t]!, fun _ => rfl⟩
                  have hcw : ∀ t, t < n → wc.cell? ⟨blk, off + t, none⟩ = some (.int .u32 (G t)) := fun t ht => by rw [hG]; exact h2.cells t (by omega)
                  have HG := Lib.hid hG
                  have H2 := Lib.hid h2
                  have Hs2 := Lib.hid hs2
                  have Hp2 := Lib.hid hp2
                  have Hb2 := Lib.hid (Sort.Below.perm Hbl.out (by rw [Hsk.out]; omega) hp2)
                  clear h2 hs2 hp2 hG
                  by_cases hp0 : 0 < p
                  · go_wp2_with fail
                    go_big_quiet (first | (go_at_call 107; refine Calls.quiet_of_same (less _ _ _)))
                    go_wp2_with fail
                    · have ht : ltInt (G (p - 1)) (G pv) = false := by
                        have : (!ltInt (G (p - 1)) (G pv)) = true := by assumption
                        simpa using this
                      have H3 := Lib.hid (H2.out.drewN nq)
                      generalize wc.drewN nq = W3 at *
                      have k1 := partitionEqual_any H3.out cap p q pv g1 g2 (by rw [Hs2.out]; omega) (by rw [Hs2.out]; omega)
                      rw [Hs2.out] at k1
                      have hR := round_eq (lt := ltInt) swo_ltInt (partitionEqual_holds _) (d3 := d2) (a := p) (b := q) (pivot := pv) hp0 g1 g2 (by rw [Hs2.out]; omega) Hb2.out (by rw [← HG.out, ← HG.out]; exact ht) (show Sort.partitionEqual ltInt d2 p q pv = ((Sort.partitionEqual ltInt d2 p q pv).1, (Sort.partitionEqual ltInt d2 p q pv).2) from rfl)
                      generalize Sort.partitionEqual ltInt d2 p q pv = R at *
                      obtain ⟨mid, d4⟩ := R
                      obtain ⟨r1, r2, r3, r4, r5⟩ := hR
                      simp only at r1 r2 r3 r4 r5
                      have K2 := Lib.hid k1
                      have R3 := Lib.hid (r3.trans Hs2.out)
                      have R4 := Lib.hid r4
                      have R5 := Lib.hid r5
                      clear k1 hcw r3 r4 r5 ht
                      go_wp2_with fail
                      refine K2.out.mono ?_
                      rintro x w4 ⟨rfl, h4⟩
                      have H4 := Lib.hid h4
                      clear h4
                      go_wp2
                      go_roundw
                      case rel => exact ⟨mid, q, lim1, wb, wp, d4, rfl, rfl, rfl, rfl, rfl, by omega, by omega, by omega, hlim1, R3.out, H4.out, R4.out, fun D h1 h2 => by obtain ⟨x1, x2⟩ := R5.out D h1 h2; exact Hgl.out D (permIn_trans _ _ _ _ _ Hp2.out x1) x2⟩
                      case measure => simp [intOf]; omega
                    · have H3 := Lib.hid (H2.out.drewN nq)
                      generalize wc.drewN nq = W3 at *
                      have k1 := partition_post H3.out cap p q pv g1 g2 (by rw [Hs2.out]; omega) (by rw [Hs2.out]; omega)
                      rw [Hs2.out] at k1
                      have hR := round_part (lt := ltInt) swo_ltInt (partition_holds _) (d3 := d2) (a := p) (b := q) (pivot := pv) g1 g2 (by rw [Hs2.out]; omega) Hb2.out (show Sort.partition ltInt d2 p q pv = ((Sort.partition ltInt d2 p q pv).1, (Sort.partition ltInt d2 p q pv).2.1, (Sort.partition ltInt d2 p q pv).2.2) from rfl)
                      generalize Sort.partition ltInt d2 p q pv = R at *
                      obtain ⟨mid, ap0, d4⟩ := R
                      obtain ⟨r1, r2, r3, r4, r5, r6, r7⟩ := hR
                      simp only at r1 r2 r3 r4 r5 r6 r7
                      have K2 := Lib.hid k1
                      have R3 := Lib.hid (r3.trans Hs2.out)
                      have R4 := Lib.hid r4
                      have R5 := Lib.hid r5
                      have R6 := Lib.hid r6
                      have R7 := Lib.hid r7
                      clear k1 hcw r3 r4 r5 r6 r7
                      by_cases hlr : mid - p < q - mid
                      · have hlrz : (mid : Int) - (p : Int) < (q : Int) - (mid : Int) := by omega
                        go_wp2_with fail
                        refine K2.out.mono ?_
                        rintro x w4 ⟨ap, rfl, h4⟩
                        have K3 := Lib.hid (Ih.out w4 d4 p mid lim1 (by omega) h4 R3.out r1 (by omega) hlim1 R4.out)
                        clear h4
                        go_wp2_with fail
                        refine K3.out.mono ?_
                        rintro x w5 ⟨L, rfl, hL, hsL, h5⟩
                        obtain ⟨t1, t2⟩ := R6.out L hL hsL
                        have T1 := Lib.hid t1
                        have T2 := Lib.hid t2
                        have HL := Lib.hid (hL.1.trans R3.out)
                        have H5 := Lib.hid h5
                        clear t1 t2 hL hsL h5
                        go_wp2
                        go_roundw
                        case rel => exact ⟨mid + 1, q, lim1, _, ap, L, by go_num, rfl, rfl, rfl, rfl, by omega, by omega, by omega, hlim1, HL.out, H5.out, T1.out, fun D h1 h2 => by obtain ⟨x1, x2⟩ := T2.out D h1 h2; exact Hgl.out D (permIn_trans _ _ _ _ _ Hp2.out x1) x2⟩
                        case measure => simp [intOf]; omega
                      · have hlrz : ¬ (mid : Int) - (p : Int) < (q : Int) - (mid : Int) := by omega
                        go_wp2_with fail
                        refine K2.out.mono ?_
                        rintro x w4 ⟨ap, rfl, h4⟩
                        have K3 := Lib.hid (Ih.out w4 d4 (mid + 1) q lim1 (by omega) h4 R3.out (by omega) (by omega) hlim1 R5.out)
                        clear h4
                        go_wp2_with fail
                        refine K3.out.mono ?_
                        rintro x w5 ⟨L, rfl, hL, hsL, h5⟩
                        obtain ⟨t1, t2⟩ := R7.out L hL hsL
                        have T1 := Lib.hid t1
                        have T2 := Lib.hid t2
                        have HL := Lib.hid (hL.1.trans R3.out)
                        have H5 := Lib.hid h5
                        clear t1 t2 hL hsL h5
                        go_wp2
                        go_roundw
                        case rel => exact ⟨p, mid, lim1, _, ap, L, rfl, rfl, rfl, rfl, rfl, by omega, by omega, by omega, hlim1, HL.out, H5.out, T1.out, fun D h1 h2 => by obtain ⟨x1, x2⟩ := T2.out D h1 h2; exact Hgl.out D (permIn_trans _ _ _ _ _ Hp2.out x1) x2⟩
                        case measure => simp [intOf]; omega
                  · have hpz : decide ((p : Int) > 0) = false := decide_eq_false (by omega)
                    have hpy : decide (0 < (p : Int)) = false := decide_eq_false (by omega)
                    go_wp2_with fail
                    go_big_quiet (first | (go_at_call 107; refine Calls.quiet_of_same (less _ _ _)))
                    go_wp2_with fail
                    have H3 := Lib.hid (H2.out.drewN nq)
                    generalize wc.drewN nq = W3 at *
                    have k1 := partition_post H3.out cap p q pv g1 g2 (by rw [Hs2.out]; omega) (by rw [Hs2.out]; omega)
                    rw [Hs2.out] at k1
                    have hR := round_part (lt := ltInt) swo_ltInt (partition_holds _) (d3 := d2) (a := p) (b := q) (pivot := pv) g1 g2 (by rw [Hs2.out]; omega) Hb2.out (show Sort.partition ltInt d2 p q pv = ((Sort.partition ltInt d2 p q pv).1, (Sort.partition ltInt d2 p q pv).2.1, (Sort.partition ltInt d2 p q pv).2.2) from rfl)
                    generalize Sort.partition ltInt d2 p q pv = R at *
                    obtain ⟨mid, ap0, d4⟩ := R
                    obtain ⟨r1, r2, r3, r4, r5, r6, r7⟩ := hR
                    simp only at r1 r2 r3 r4 r5 r6 r7
                    have K2 := Lib.hid k1
                    have R3 := Lib.hid (r3.trans Hs2.out)
                    have R4 := Lib.hid r4
                    have R5 := Lib.hid r5
                    have R6 := Lib.hid r6
                    have R7 := Lib.hid r7
                    clear k1 hcw r3 r4 r5 r6 r7
                    by_cases hlr : mid - p < q - mid
                    · have hlrz : (mid : Int) - (p : Int) < (q : Int) - (mid : Int) := by omega
                      go_wp2_with fail
                      refine K2.out.mono ?_
                      rintro x w4 ⟨ap, rfl, h4⟩
                      have K3 := Lib.hid (Ih.out w4 d4 p mid lim1 (by omega) h4 R3.out r1 (by omega) hlim1 R4.out)
                      clear h4
                      go_wp2_with fail
                      refine K3.out.mono ?_
                      rintro x w5 ⟨L, rfl, hL, hsL, h5⟩
                      obtain ⟨t1, t2⟩ := R6.out L hL hsL
                      have T1 := Lib.hid t1
                      have T2 := Lib.hid t2
                      have HL := Lib.hid (hL.1.trans R3.out)
                      have H5 := Lib.hid h5
                      clear t1 t2 hL hsL h5
                      go_wp2
                      go_roundw
                      case rel => exact ⟨mid + 1, q, lim1, _, ap, L, by go_num, rfl, rfl, rfl, rfl, by omega, by omega, by omega, hlim1, HL.out, H5.out, T1.out, fun D h1 h2 => by obtain ⟨x1, x2⟩ := T2.out D h1 h2; exact Hgl.out D (permIn_trans _ _ _ _ _ Hp2.out x1) x2⟩
                      case measure => simp [intOf]; omega
                    · have hlrz : ¬ (mid : Int) - (p : Int) < (q : Int) - (mid : Int) := by omega
                      go_wp2_with fail
                      refine K2.out.mono ?_
                      rintro x w4 ⟨ap, rfl, h4⟩
                      have K3 := Lib.hid (Ih.out w4 d4 (mid + 1) q lim1 (by omega) h4 R3.out (by omega) (by omega) hlim1 R5.out)
                      clear h4
                      go_wp2_with fail
                      refine K3.out.mono ?_
                      rintro x w5 ⟨L, rfl, hL, hsL, h5⟩
                      obtain ⟨t1, t2⟩ := R7.out L hL hsL
                      have T1 := Lib.hid t1
                      have T2 := Lib.hid t2
                      have HL := Lib.hid (hL.1.trans R3.out)
                      have H5 := Lib.hid h5
                      clear t1 t2 hL hsL h5
                      go_wp2
                      go_roundw
                      case rel => exact ⟨p, mid, lim1, _, ap, L, rfl, rfl, rfl, rfl, rfl, by omega, by omega, by omega, hlim1, HL.out, H5.out, T1.out, fun D h1 h2 => by obtain ⟨x1, x2⟩ := T2.out D h1 h2; exact Hgl.out D (permIn_trans _ _ _ _ _ Hp2.out x1) x2⟩
                      case measure => simp [intOf]; omega
set_option maxRecDepth 100000 in
theorem sort {W0 w : World} {blk off : Nat} {e : TypeId} {N : Nat} {d : Array Int} (h : SW W0 w blk off e N d) (cap n : Nat) (hn : d.size = n) (hsz : n < 65536) :
    Calls Try.prog 62 #[.slice (some ⟨blk, off, none⟩) n cap] w (PQ W0 blk off e N d 0 n) := by
  obtain ⟨_, p2⟩ := pow_bitLen 16 n (by omega) (by omega)
  have k1 := Lib.hid (pdqsort W0 blk off e N cap n hsz n w d 0 n (Lib.bitLen n) (by omega) h hn (by omega) (Nat.le_refl _) (by omega) (.inl rfl))
  have hl := fun w => bitsLen_any n hsz w
  clear h hn
  generalize Lib.bitLen n = k at *
  go_enter Try.func62, Try.ntmps62
  go_wp2_with (first | (go_at_call 82; (with_reducible refine (hl _).mono ?_); rintro x w' ⟨rfl, rfl⟩) | (go_at_call 81; refine k1.out.mono ?_; rintro x w' ⟨d', rfl, h1, h2, h3⟩))
  go_end0
  exact ⟨d', rfl, h1, h2, h3⟩
end Go.Proofs.Ytldmglodjafklaa.Srt
