/- The walk of aediculelaw20.NicOrder. -/
import Derived.Test.YtkjpffihmcjjpaaNicBox
namespace Go.Proofs.Ytkjpffihmcjjpaa.Ni
open Go.RowKit
set_option linter.unusedVariables false
def noStep : StepR := ⟨0, 0, ByteArray.empty⟩
theorem sl_steps {w : World} {a : Option Addr} {cap : Nat} {xs : List StepR} (h : Rd.Sl w 3 stepQ a cap xs) : (0 < xs.length → ∃ b off, a = some ⟨b, off, none⟩ ∧ ∀ i, i < xs.length → StepAt w b off i (xs.getD i noStep)) ∧ ∀ i, i < xs.length → (xs.getD i noStep).ok := by
  obtain ⟨_, _, h, _⟩ := h
  rcases h with rfl | ⟨b, off, rfl, h⟩
  · exact ⟨fun g => absurd g (by simp), fun i hi => absurd hi (by simp)⟩
  · have hg : ∀ i, i < xs.length → xs[i]? = some (xs.getD i noStep) := fun i hi => by rw [List.getD, List.getElem?_eq_getElem hi]; rfl
    refine ⟨fun _ => ⟨b, off, rfl, fun i hi => ?_⟩, fun i hi => (h i _ (hg i hi)).2⟩
    obtain ⟨⟨c0, c1, c2⟩, _⟩ := h i _ (hg i hi)
    exact ⟨c0, c1, c2⟩
def ordRel (w0 : World) (nb : Nat) (p : Int) (len : Nat) (sv si : Value) (wr : World) : Prop := ∃ (k : Nat) (S : NicS), k ≤ len ∧ si = .int .i64 k ∧ bnd S (2 * k) ∧ OS w0 wr nb S sv (S.q p)
def ordRel2 (w0 : World) (nb : Nat) (p : Int) (l : List ByteArray) (v si : Value) (wr : World) : Prop := ∃ (i : Nat) (S : NicS), i ≤ l.length ∧ si = .int .i64 i ∧ OS w0 wr nb S v l ∧ S.q p = l.drop i
theorem OS.at {w0 w : World} {nb : Nat} {S : NicS} {g off n cap : Nat} {l : List ByteArray} (h : OS w0 w nb S (.slice (some ⟨g, off, none⟩) n cap) l) (hn : n = l.length) (i : Nat) (hi : i < l.length) : w.cell? ⟨g, off + i, none⟩ = some (.string l[i]) := by
  subst hn
  have := h.sl.cell i (by omega)
  rw [this]
  simp [hi]
theorem OS.some {w0 w : World} {nb : Nat} {S : NicS} {a : Option Addr} {n cap : Nat} {l : List ByteArray} (h : OS w0 w nb S (.slice a n cap) l) (hl : 0 < l.length) : ∃ g off, a = some ⟨g, off, none⟩ := by
  rcases h.sl.2 with ⟨h0, _⟩ | ⟨g, off', cap', cur, hv', _⟩
  · omega
  · simp only [Value.slice.injEq] at hv'
    exact ⟨g, off', hv'.1⟩
set_option maxRecDepth 100000 in
set_option maxHeartbeats 4000000 in
theorem nicOrder (w : World) (a : Option Addr) (cap : Nat) (xs : List StepR) (p : Int) (sl : Rd.Sl w 3 stepQ a cap xs) (sz : xs.length * Try.prog.bytesOf 30 < 140737488355328) (wp : (Lit.int .u16 p).wf = true) :
    Calls Try.prog 3 #[.slice a xs.length cap, .int .u16 p] w fun e w' => e = .returned (.bool true) ∧ Below w.heap.size w w' := by
  have hb32 : Try.prog.bytesOf 30 = 32 := by kernel_rfl
  rw [hb32] at sz
  obtain ⟨hcells, hok⟩ := sl_steps sl
  have hp := bounds_u16 wp
  have hp1 : p < 65536 := by have := hp.2; omega
  have hp0 := hp.1
  have hlen : xs.length ≤ 9223372036854775807 := by omega
  generalize hZ : (fun i => xs.getD i noStep) = Z at *
  have Hcells : Hid (0 < xs.length → ∃ b off, a = some ⟨b, off, none⟩ ∧ ∀ i, i < xs.length → StepAt w b off i (Z i)) := by rw [← hZ]; exact hcells
  have Hok : Hid (∀ i, i < xs.length → (Z i).ok) := by rw [← hZ]; exact hok
  have Hheavy := Lib.hid (heavy a xs.length cap Z w Hcells.out Hok.out hlen)
  clear sl hcells hok hZ hp wp hb32
  generalize xs.length = len at *
  cases hB : heavyB Z len with
  | true =>
    have HB := Lib.hid hB
    clear hB
    go_enter Try.func3, Try.ntmps3
    go_wp2_with fail
    refine Hheavy.out.mono ?_
    rintro e w1 ⟨rfl, rfl⟩
    rw [HB.out]
    go_wp2_with (go_at_call 6; (with_reducible refine (alive _).mono ?_); rintro e w1 ⟨rfl, hb⟩)
    go_ret
    exact ⟨rfl, by assumption⟩
  | false =>
    have HB := Lib.hid hB
    have hl150 : len ≤ 150 := by
      unfold heavyB at hB
      simp only [Bool.or_eq_false_iff, decide_eq_false_iff_not] at hB
      omega
    clear hB
    go_enter Try.func3, Try.ntmps3
    go_wp2_with fail
    refine Hheavy.out.mono ?_
    rintro e w1 ⟨rfl, rfl⟩
    rw [HB.out]
    go_wp2_with fail
    refine (o_new _).mono ?_
    rintro e w1 ⟨rfl, h1⟩
    have hs1 := OS.of h1
    have Hs1 := Lib.hid hs1
    clear hs1 h1
    generalize hnb : w.heap.size + 1 = nb at *
    go_wp2
    go_loopw [6, 7, 8, 9, 10, 11, 12, 13, 14, 15] (fun sv si _ _ _ _ _ _ _ _ wr => ordRel w nb p len sv si wr) (fun _ i _ _ _ _ _ _ _ _ _ => len - (intOf i).toNat)
    case atStart => exact ⟨0, newS, by omega, rfl, ⟨by decide, by decide, by decide⟩, Hs1.out⟩
    case round =>
      obtain ⟨k, S, hk, rfl, hbn, hos⟩ := hrel
      by_cases hk2 : k < len
      · obtain ⟨b, off, rfl, hst⟩ := Hcells.out (by omega)
        have hs := hst k hk2
        have hx := Hok.out k hk2
        have hbw : b < w.heap.size := World.block_lt_of_cell? w _ hs.dod
        have e0 := (hos.bel.cell (p := ⟨b, off + k * 3, none⟩) hbw).trans hs.dod
        have e1 := (hos.bel.cell (p := ⟨b, off + k * 3 + 1, none⟩) hbw).trans hs.port
        have e2 := (hos.bel.cell (p := ⟨b, off + k * 3 + 2, none⟩) hbw).trans hs.frame
        obtain ⟨d0, d1, x0, x1, f1⟩ := hx
        clear hst hs
        generalize (Z k).dod = d at *
        generalize (Z k).port = x at *
        generalize (Z k).frame = f at *
        obtain ⟨aq, cq, hv⟩ := hos.sl.form
        subst hv
        have hq8 := hos.small p
        have Hos := Lib.hid hos
        have Hbn := Lib.hid hbn
        clear hos hbn
        -- CASES
        have HB0 := Lib.hid (Hos.out.box d x f)
        have hg0 : 0 ≤ S.gone := Hbn.out.1
        have hg1 : S.gone < 9223372036854775807 := by have := Hbn.out.2.1; omega
        have hsn : S.sent.length < 4398046511104 := by have := Hbn.out.2.2; omega
        have Hg := Lib.hid hg0
        have Hg1 := Lib.hid hg1
        have Hsn := Lib.hid hsn
        clear hg0 hg1 hsn
        by_cases hd0 : d = 0
        · subst hd0
          cases hA : arriveB S f with
          | true =>
            have hA' := hA
            unfold arriveB at hA'
            simp only [Bool.and_eq_true, decide_eq_true_eq] at hA'
            obtain ⟨⟨hm, hpB⟩, hl8⟩ := hA'
            have HP := Lib.hid (show arriveP f = portV f 22 by unfold arriveP; rw [if_pos hm])
            have HE := Lib.hid (show arriveE f = 0 by unfold arriveE; rw [if_pos hm])
            have HA := Lib.hid hA
            have HS := Lib.hid hpB
            have HK := Lib.hid (q_arrive_kept S f hA)
            have HN : Hid (portV f 22 ≠ p → (arriveS S f).q p = S.q p) := fun g => q_arrive_not S f p (.inr g)
            have Hbn2 := Lib.hid (bnd_mono (bnd_arrive Hbn.out f) (show 2 * k + 1 ≤ 2 * (k + 1) by omega))
            have hbd := portV_bd f 22 (by omega)
            clear hA hm hpB
            generalize hPP : portV f 22 = P at *
            have HPP := Lib.hid hPP
            clear hPP
            go_wp2_with fail
            refine (b_arrive HB0.out f f1 Hg.out Hg1.out).mono ?_
            rintro e w2 ⟨rfl, h2⟩
            rw [HP.out, HA.out, HE.out]
            have c2 := h2.c2
            have H2 := Lib.hid h2
            clear h2
            go_wp2_with fail
            refine (b_to H2.out f f1).mono ?_
            rintro e w3 ⟨rfl, h3⟩
            rw [HPP.out, HS.out]
            have c3 := h3.c2
            have H3 := Lib.hid h3
            clear h3
            by_cases hPp : P = p
            · subst hPp
              obtain ⟨i0, hi0, hz0, hz1, hz2⟩ := info_parts infoStr
              have Hi := Lib.hid hi0
              have Hz0 := Lib.hid hz0
              have Hz1 := Lib.hid hz1
              have Hz2 := Lib.hid hz2
              clear hi0 hz0 hz1 hz2
              generalize hn : (S.q P).length = n at *
              have Hn := Lib.hid hn
              clear hn
              have Hsl : Hid (SlV w3 9 1 (.slice aq n cq) n ((S.q P).map .string)) := by have := H3.out.sl; rw [Hn.out] at this; exact this
              have Hvb := Lib.hid H3.out.vb
              go_wp2_with (at_builtin; refine wpList_append_slv _ (by rfl) _ _ _ (by rfl) 9 i0 (.string ByteArray.empty) 1 16 Try.underlying28 Hi.out Hz0.out Hz1.out Hz2.out rfl (by omega) (.slice aq n cq) n ((S.q P).map .string) (by rfl) (Hsl.out.keep fun g hg => Below.heap_alloc _ _ _ (Hvb.out g hg).2.1) ⟨w3.heap.size, 0, none⟩ 1 1 [.string f] (by rfl) (by omega) (by rfl) (World.news_of_block (cs := #[.string f]) (t := 9) (fr := (0, 0)) (heap_alloc_new w3 _)) (fun x hx => by simp at hx; subst hx; rfl) (by unfold maxLen; omega) (by omega) ?_; intro v1 w4 q1 q2 q3)
              have hos4 := H3.out.os.app q1 q2 q3
              obtain ⟨a1, cap1, hv1⟩ := q1.form
              subst hv1
              have Hend := Lib.hid (s_len hos4 P hp0 hp1)
              rw [HK.out, List.length_append, Hn.out, List.length_singleton] at Hend
              have Hos4 := Lib.hid hos4
              clear hos4 q1 q2 q3
              go_wp2_with (go_at_call 10; (with_reducible refine (Hend.out).mono ?_); rintro e w9 ⟨rfl, rfl⟩)
              exact ⟨⟨k + 1, _, by omega, by go_num, Hbn2.out, by rw [HK.out]; exact Hos4.out⟩, by simp [intOf]; omega⟩
            · have Hq := Lib.hid (HN.out hPp)
              clear HN
              have Hend := Lib.hid (b_len H3.out p hp0 hp1)
              rw [Hq.out] at Hend
              go_wp2_with (go_at_call 10; (with_reducible refine (Hend.out).mono ?_); rintro e w9 ⟨rfl, rfl⟩)
              exact ⟨⟨k + 1, _, by omega, by go_num, Hbn2.out, by rw [Hq.out]; exact H3.out.os⟩, by simp [intOf]; omega⟩
          | false =>
            have HA := Lib.hid hA
            have Hq := Lib.hid (q_arrive_not S f p (.inl hA))
            have Hbn2 := Lib.hid (bnd_mono (bnd_arrive Hbn.out f) (show 2 * k + 1 ≤ 2 * (k + 1) by omega))
            have hbd := portV_bd f 22 (by omega)
            have hA' := hA
            unfold arriveB at hA'
            cases hm : mayB f with
            | false =>
              have HP := Lib.hid (show arriveP f = 0 by unfold arriveP; rw [hm]; rfl)
              have HE := Lib.hid (show arriveE f = 2 by unfold arriveE; rw [hm]; rfl)
              clear hA hA' hm
              generalize hPP : portV f 22 = P at *
              have HPP := Lib.hid hPP
              clear hPP
              obtain ⟨Bo, hBo⟩ : ∃ Bo, portB f = Bo := ⟨_, rfl⟩
              have HS := Lib.hid hBo
              clear hBo
              cases Bo
              all_goals
                go_wp2_with fail
                refine (b_arrive HB0.out f f1 Hg.out Hg1.out).mono ?_
                rintro e w2 ⟨rfl, h2⟩
                rw [HP.out, HA.out, HE.out]
                have c2 := h2.c2
                have H2 := Lib.hid h2
                clear h2
                go_wp2_with fail
                refine (b_to H2.out f f1).mono ?_
                rintro e w3 ⟨rfl, h3⟩
                rw [HPP.out, HS.out]
                have c3 := h3.c2
                have H3 := Lib.hid h3
                clear h3
                have Hend := Lib.hid (b_len H3.out p hp0 hp1)
                rw [Hq.out] at Hend
                go_wp2_with (go_at_call 10; (with_reducible refine (Hend.out).mono ?_); rintro e w9 ⟨rfl, rfl⟩)
                exact ⟨⟨k + 1, _, by omega, by go_num, Hbn2.out, by rw [Hq.out]; exact H3.out.os⟩, by simp [intOf]; omega⟩
            | true =>
              have HP := Lib.hid (show arriveP f = portV f 22 by unfold arriveP; rw [hm]; rfl)
              have HE := Lib.hid (show arriveE f = 0 by unfold arriveE; rw [hm]; rfl)
              cases hpB : portB f with
              | false =>
                have HS := Lib.hid hpB
                clear hA hA' hm hpB
                generalize hPP : portV f 22 = P at *
                have HPP := Lib.hid hPP
                clear hPP
                go_wp2_with fail
                refine (b_arrive HB0.out f f1 Hg.out Hg1.out).mono ?_
                rintro e w2 ⟨rfl, h2⟩
                rw [HP.out, HA.out, HE.out]
                have c2 := h2.c2
                have H2 := Lib.hid h2
                clear h2
                go_wp2_with fail
                refine (b_to H2.out f f1).mono ?_
                rintro e w3 ⟨rfl, h3⟩
                rw [HPP.out, HS.out]
                have c3 := h3.c2
                have H3 := Lib.hid h3
                clear h3
                have Hend := Lib.hid (b_len H3.out p hp0 hp1)
                rw [Hq.out] at Hend
                go_wp2_with (go_at_call 10; (with_reducible refine (Hend.out).mono ?_); rintro e w9 ⟨rfl, rfl⟩)
                exact ⟨⟨k + 1, _, by omega, by go_num, Hbn2.out, by rw [Hq.out]; exact H3.out.os⟩, by simp [intOf]; omega⟩
              | true =>
                have HS := Lib.hid hpB
                have hl8 : 8 ≤ (S.q (portV f 22)).length := by rw [hm, hpB, Bool.true_and, Bool.true_and, decide_eq_false_iff_not] at hA'; omega
                have Hq2 := Lib.hid (q_arrive_not S f (portV f 22) (.inl hA))
                clear hA hA' hm hpB
                generalize hPP : portV f 22 = P at *
                have HPP := Lib.hid hPP
                clear hPP
                generalize hm8 : (S.q P).length = m8 at *
                have Hm8 := Lib.hid hm8
                clear hm8
                go_wp2_with fail
                refine (b_arrive HB0.out f f1 Hg.out Hg1.out).mono ?_
                rintro e w2 ⟨rfl, h2⟩
                rw [HP.out, HA.out, HE.out]
                have c2 := h2.c2
                have H2 := Lib.hid h2
                clear h2
                go_wp2_with fail
                refine (b_to H2.out f f1).mono ?_
                rintro e w3 ⟨rfl, h3⟩
                rw [HPP.out, HS.out]
                have c3 := h3.c2
                have H3 := Lib.hid h3
                clear h3
                have Hl2 := Lib.hid (b_len H3.out P hbd.1 hbd.2)
                rw [Hq2.out, Hm8.out] at Hl2
                go_wp2_with fail
                refine Hl2.out.mono ?_
                rintro e w8 ⟨rfl, rfl⟩
                have Hend := Lib.hid (b_len H3.out p hp0 hp1)
                rw [Hq.out] at Hend
                go_wp2_with (go_at_call 10; (with_reducible refine (Hend.out).mono ?_); rintro e w9 ⟨rfl, rfl⟩)
                exact ⟨⟨k + 1, _, by omega, by go_num, Hbn2.out, by rw [Hq.out]; exact H3.out.os⟩, by simp [intOf]; omega⟩
        · by_cases hd1 : d = 1
          · subst hd1
            by_cases hxp : x = p
            · subst hxp
              have Hbn2 := Lib.hid (bnd_mono (bnd_pop Hbn.out x) (show 2 * k + 1 ≤ 2 * (k + 1) by omega))
              cases hq : S.q x with
              | nil =>
                have Hnx := Lib.hid (show nextS S x = ByteArray.empty by unfold nextS; rw [hq])
                have Hnb := Lib.hid (show nextB S x = false by unfold nextB; rw [hq])
                have Hq := Lib.hid (show (popS S x).q x = S.q x by rw [q_pop_same, hq]; rfl)
                generalize hn : (S.q x).length = n at *
                obtain rfl : n = 0 := by rw [← hn, hq]; rfl
                have Hn := Lib.hid hn
                clear hq hn
                go_wp2_with fail
                refine (b_pop HB0.out x x0 x1).mono ?_
                rintro e w2 ⟨rfl, h2⟩
                rw [Hnx.out, Hnb.out]
                have c1 := h2.c1
                have H2 := Lib.hid h2
                clear h2
                have Hend := Lib.hid (b_len H2.out x hp0 hp1)
                rw [Hq.out, Hn.out] at Hend
                go_wp2_with (go_at_call 10; (with_reducible refine (Hend.out).mono ?_); rintro e w9 ⟨rfl, rfl⟩)
                exact ⟨⟨k + 1, _, by omega, by go_num, Hbn2.out, by rw [Hq.out]; exact H2.out.os⟩, by simp [intOf]; omega⟩
              | cons f0 r =>
                have Hnx := Lib.hid (show nextS S x = f0 by unfold nextS; rw [hq])
                have Hnb := Lib.hid (show nextB S x = true by unfold nextB; rw [hq])
                have Hq := Lib.hid (show (popS S x).q x = r by rw [q_pop_same, hq]; rfl)
                have Hq0 := Lib.hid hq
                rw [hq, List.length_cons] at hq8
                obtain ⟨oq, hoq⟩ : ∃ oq : Nat × Nat, aq = some ⟨oq.1, oq.2, none⟩ := by
                  have := HB0.out.sl
                  rw [hq] at this
                  rcases this.2 with ⟨h0, _⟩ | ⟨g, off', cap', cur, hv', _⟩
                  · simp at h0
                  · simp only [Value.slice.injEq] at hv'
                    exact ⟨(g, off'), hv'.1⟩
                obtain ⟨gq, oq⟩ := oq
                simp only at hoq
                subst hoq
                have hcq : r.length + 1 ≤ cq := by
                  have := HB0.out.sl
                  rw [hq] at this
                  rcases this.2 with ⟨h0, _⟩ | ⟨g, off', cap', cur, hv', _, hc, _⟩
                  · simp at h0
                  · simp only [Value.slice.injEq] at hv'
                    obtain ⟨_, _, rfl⟩ := hv'
                    simpa using hc
                have HB1 := Lib.hid HB0.out
                rw [hq, List.length_cons] at HB1
                have hn : (f0 :: r).length = r.length + 1 := rfl
                obtain ⟨m, hm⟩ : ∃ m, r.length = m := ⟨_, rfl⟩
                rw [hm] at hn hq8 hcq HB1
                first | rw [hn] | rw [show (S.q x).length = m + 1 by rw [hq, hn]]
                have Hm := Lib.hid hm
                clear hq hn hm Hos HB0
                by_cases hc1 : cq = 1
                · subst hc1
                  obtain rfl : m = 0 := by omega
                  go_wp2_with fail
                  refine (b_pop HB1.out x x0 x1).mono ?_
                  rintro e w2 ⟨rfl, h2⟩
                  rw [Hnx.out, Hnb.out]
                  have c1 := h2.c1
                  have hs0 := h2.hd (by rw [Hm.out])
                  have Htl := Lib.hid (h2.tl1 Hm.out)
                  have Hend := Lib.hid (s_len Htl.out x hp0 hp1)
                  rw [Hq.out, Hm.out] at Hend
                  have H2 := Lib.hid h2
                  clear h2
                  go_wp2_with (go_at_call 10; (with_reducible refine (Hend.out).mono ?_); rintro e w9 ⟨rfl, rfl⟩)
                  exact ⟨⟨k + 1, _, by omega, by go_num, Hbn2.out, by rw [Hq.out]; exact Htl.out⟩, by simp [intOf]; omega⟩
                · go_wp2_with fail
                  refine (b_pop HB1.out x x0 x1).mono ?_
                  rintro e w2 ⟨rfl, h2⟩
                  rw [Hnx.out, Hnb.out]
                  have c1 := h2.c1
                  have hs0 := h2.hd (by rw [Hm.out])
                  have Htl := Lib.hid (h2.tl2 Hm.out hc1)
                  have Hend := Lib.hid (s_len Htl.out x hp0 hp1)
                  rw [Hq.out, Hm.out] at Hend
                  have H2 := Lib.hid h2
                  clear h2
                  go_wp2_with (go_at_call 10; (with_reducible refine (Hend.out).mono ?_); rintro e w9 ⟨rfl, rfl⟩)
                  exact ⟨⟨k + 1, _, by omega, by go_num, Hbn2.out, by rw [Hq.out]; exact Htl.out⟩, by simp [intOf]; omega⟩
            · have Hq := Lib.hid (q_pop_other S (x := x) (p := p) (Ne.symm hxp))
              have Hbn2 := Lib.hid (bnd_mono (bnd_pop Hbn.out x) (show 2 * k + 1 ≤ 2 * (k + 1) by omega))
              have hxp2 : (x != p) = true := by simpa using hxp
              go_wp2_with fail
              refine (b_pop HB0.out x x0 x1).mono ?_
              rintro e w2 ⟨rfl, h2⟩
              have c1 := h2.c1
              have H2 := Lib.hid h2
              clear h2
              generalize nextS S x = ns at *
              generalize nextB S x = nbb at *
              go_wp2
              exact ⟨⟨k + 1, _, by omega, by go_num, Hbn2.out, by rw [Hq.out]; exact H2.out.os⟩, by simp [intOf]; omega⟩
          · by_cases hd2 : d = 2 ∨ d = 3
            · by_cases hxp : x = p
              · subst hxp
                have Hbn2 := Lib.hid (bnd_mono Hbn.out (show 2 * k ≤ 2 * (k + 1) by omega))
                rcases hd2 with rfl | rfl
                · go_wp2
                  exact ⟨⟨k + 1, _, by omega, by go_num, Hbn2.out, HB0.out.os⟩, by simp [intOf]; omega⟩
                · go_wp2
                  exact ⟨⟨k + 1, _, by omega, by go_num, Hbn2.out, HB0.out.os⟩, by simp [intOf]; omega⟩
              · have hxp2 : (x == p) = false := by simpa using hxp
                have Hq0 := Lib.hid (q_swap_other S (x := x) (p := p) (Ne.symm hxp))
                have hxp3 := Lib.hid hxp
                clear hxp
                rcases hd2 with rfl | rfl
                · have Hq := Lib.hid Hq0.out
                  have Hbn2 := Lib.hid (bnd_mono (bnd_swap Hbn.out x) (show 2 * k + 1 ≤ 2 * (k + 1) by omega))
                  go_wp2_with fail
                  refine (b_swap HB0.out x x0 x1).mono ?_
                  rintro e w2 ⟨rfl, h2⟩
                  generalize swapE S x = se at *
                  have c0 := h2.c0
                  have H2 := Lib.hid h2
                  clear h2
                  have Hend := Lib.hid (b_len H2.out p hp0 hp1)
                  rw [Hq.out] at Hend
                  go_wp2_with (go_at_call 10; (with_reducible refine (Hend.out).mono ?_); rintro e w9 ⟨rfl, rfl⟩)
                  exact ⟨⟨k + 1, _, by omega, by go_num, Hbn2.out, by rw [Hq.out]; exact H2.out.os⟩, by simp [intOf]; omega⟩
                · have Hq : Hid ((popS (swapS S x) x).q p = S.q p) := by rw [q_pop_other _ (Ne.symm hxp3.out)]; exact Hq0.out
                  have Hbn2 := Lib.hid (bnd_mono (bnd_pop (bnd_swap Hbn.out x) x) (show 2 * k + 1 + 1 ≤ 2 * (k + 1) by omega))
                  go_wp2_with fail
                  refine (b_swap HB0.out x x0 x1).mono ?_
                  rintro e w2 ⟨rfl, h2⟩
                  generalize swapE S x = se at *
                  have c0 := h2.c0
                  have c1 := h2.c1
                  have H2 := Lib.hid h2
                  clear h2
                  go_wp2_with fail
                  refine (b_lose H2.out x x0 x1).mono ?_
                  rintro e w3 ⟨rfl, h3⟩
                  generalize loseE (swapS S x) x = le at *
                  have H3 := Lib.hid h3
                  clear h3
                  have Hend := Lib.hid (b_len H3.out p hp0 hp1)
                  rw [Hq.out] at Hend
                  go_wp2_with (go_at_call 10; (with_reducible refine (Hend.out).mono ?_); rintro e w9 ⟨rfl, rfl⟩)
                  exact ⟨⟨k + 1, _, by omega, by go_num, Hbn2.out, by rw [Hq.out]; exact H3.out.os⟩, by simp [intOf]; omega⟩
            · have hd2a : d ≠ 2 := fun g => hd2 (.inl g)
              have hd2b : d ≠ 3 := fun g => hd2 (.inr g)
              clear hd2
              by_cases hd4 : d = 4
              · subst hd4
                have Hq := Lib.hid (show (sendS S f).q p = S.q p by rw [q_send])
                have Hbn2 := Lib.hid (bnd_mono (bnd_send Hbn.out f) (show 2 * k + 1 ≤ 2 * (k + 1) by omega))
                go_wp2_with fail
                refine (b_send HB0.out f f1 Hsn.out).mono ?_
                rintro e w2 ⟨rfl, h2⟩
                generalize sendE f = se at *
                have H2 := Lib.hid h2
                clear h2
                have Hend := Lib.hid (b_len H2.out p hp0 hp1)
                rw [Hq.out] at Hend
                go_wp2_with (go_at_call 10; (with_reducible refine (Hend.out).mono ?_); rintro e w9 ⟨rfl, rfl⟩)
                exact ⟨⟨k + 1, _, by omega, by go_num, Hbn2.out, by rw [Hq.out]; exact H2.out.os⟩, by simp [intOf]; omega⟩
              · have Hbn2 := Lib.hid (bnd_mono Hbn.out (show 2 * k ≤ 2 * (k + 1) by omega))
                have h0 : (d == 0) = false := by simpa using hd0
                have h1 : (d == 1) = false := by simpa using hd1
                have h2 : (d == 2) = false := by simpa using hd2a
                have h3 : (d == 3) = false := by simpa using hd2b
                have h4 : (d == 4) = false := by simpa using hd4
                have Hend := Lib.hid (b_len HB0.out p hp0 hp1)
                go_wp2_with (go_at_call 10; (with_reducible refine (Hend.out).mono ?_); rintro e w9 ⟨rfl, rfl⟩)
                exact ⟨⟨k + 1, _, by omega, by go_num, Hbn2.out, HB0.out.os⟩, by simp [intOf]; omega⟩
      · obtain rfl : k = len := by omega
        obtain ⟨wo, rfl⟩ : ∃ wo : World, wo = wr := ⟨_, rfl⟩
        obtain ⟨aq, cq, hv⟩ := hos.sl.form
        subst hv
        have hq8 := hos.small p
        obtain ⟨l, hl⟩ : ∃ l, S.q p = l := ⟨_, rfl⟩
        rw [hl] at hos hq8 ⊢
        have Hos := Lib.hid hos
        have Hl := Lib.hid hl
        obtain ⟨n, hn⟩ : ∃ n, l.length = n := ⟨_, rfl⟩
        rw [hn] at hq8 Hos ⊢
        have Hn := Lib.hid hn
        clear hos hl hn hbn
        go_wp2
        go_loopw [16, 17, 18] (fun si _ _ wr => ordRel2 w nb p l (.slice aq n cq) si wr) (fun i _ _ _ => n - (intOf i).toNat)
        case atStart => exact ⟨0, S, by omega, rfl, Hos.out, Hl.out⟩
        case round =>
          obtain ⟨i, S', hi, rfl, hos', hq'⟩ := hrel
          rw [Hn.out] at hi
          by_cases hin : i < n
          · obtain ⟨g, og, rfl⟩ := hos'.some (by rw [Hn.out]; omega)
            have hil : i < l.length := by rw [Hn.out]; exact hin
            have hdr := List.drop_eq_getElem_cons hil
            rw [hdr] at hq'
            have Hnx := Lib.hid (show nextS S' p = l[i] by unfold nextS; rw [hq'])
            have Hnb := Lib.hid (show nextB S' p = true by unfold nextB; rw [hq'])
            have Hq := Lib.hid (show (popS S' p).q p = l.drop (i + 1) by rw [q_pop_same, hq']; rfl)
            have Hos' := Lib.hid hos'
            have Hil := Lib.hid hil
            clear hdr hq' hos'
            go_wp2_with fail
            refine (s_pop Hos'.out p hp0 hp1).mono ?_
            rintro e w2 ⟨rfl, h2⟩
            rw [Hnx.out, Hnb.out]
            have hcl := h2.at Hn.out.symm i Hil.out
            have H2 := Lib.hid h2
            clear h2
            generalize hli : l[i]'Hil.out = fi at hcl ⊢
            clear hli
            go_wp2
            exact ⟨⟨i + 1, _, by rw [Hn.out]; omega, by go_num, H2.out, Hq.out⟩, by simp [intOf]; omega⟩
          · obtain rfl : i = n := by omega
            have Hend := Lib.hid (s_len hos' p hp0 hp1)
            rw [hq', List.drop_of_length_le (by rw [Hn.out]; omega), List.length_nil] at Hend
            have Hos' := Lib.hid hos'
            clear hos' hq'
            go_wp2_with (first | (go_at_call 10; (with_reducible refine (Hend.out).mono ?_); rintro e w9 ⟨rfl, rfl⟩) | (go_at_call 6; (with_reducible refine (alive _).mono ?_); rintro e w9 ⟨rfl, hb⟩))
            go_ret
            exact ⟨rfl, Hos'.out.bel.trans (Below.mono (by assumption) Hos'.out.bel.size)⟩
end Go.Proofs.Ytkjpffihmcjjpaa.Ni
