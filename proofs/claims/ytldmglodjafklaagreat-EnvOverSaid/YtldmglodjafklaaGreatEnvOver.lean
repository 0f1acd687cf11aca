/- The walk of aediculelaw21.EnvOver. -/
import Derived.Test.YtldmglodjafklaaGreatDoes21
import Derived.Test.YtldmglodjafklaaGreatHeavy21
import Derived.Test.YtldmglodjafklaaGreatRunsB
namespace Go.Proofs.YtldmglodjafklaaGreat
open Go.RowKit Word
set_option linter.unusedVariables false
set_option linter.unusedSimpArgs false
theorem En.over {E : En} (h : E.kind ≠ 2) : (E.step = E ∧ E.redE = 3 ∧ ∀ c, E.exit c = E) ∧ (∀ x b, E.pageE x = 3 ∧ E.page x b = E) ∧ (∀ x, E.dropE x = 3 ∧ E.drop x = E) ∧ ∀ s, E.putE s = 3 ∧ E.put s = E := by
  have hm : ∀ x, E.mayE x = 3 := fun x => by unfold En.mayE; rw [if_pos h]
  have hp : ∀ x, E.pageE x = 3 := fun x => by unfold En.pageE; rw [hm, if_pos (by omega)]
  have hq : ∀ s, E.putE s = 3 := fun s => by unfold En.putE; rw [if_pos h]
  refine ⟨⟨by unfold En.step; rw [if_pos h], by unfold En.redE; rw [if_pos h], fun c => by unfold En.exit; rw [if_pos h]⟩, fun x b => ⟨hp x, by unfold En.page; rw [hp, if_pos (by omega)]⟩, fun x => ⟨by unfold En.dropE; rw [hm, if_pos (by omega)], by unfold En.drop; rw [hm, if_pos (by omega)]⟩, fun s => ⟨hq s, by unfold En.put; rw [hq, if_pos (by omega)]⟩⟩
theorem En.exit_kind (E : En) (c : Int) : (E.exit c).kind ≠ 2 := by
  unfold En.exit
  by_cases h : E.kind ≠ 2
  · rw [if_pos h]; exact h
  · rw [if_neg h]; show (3 : Int) ≠ 2; omega
theorem lst_mod {F : Nat → Prop} {w w' : World} {v : Value} {xs : List Int} (h : Sl.Lst w v xs) (hm : Mod F w w') (hF : ∀ g, v.ownBlock = some g → ¬ F g) : Sl.Lst w' v xs := by
  refine ⟨h.1, ?_⟩
  rcases h.2 with g | ⟨g, off, cap, cur, rfl, hg, rest⟩
  · exact .inl g
  · exact .inr ⟨g, off, cap, cur, rfl, (hm.block _ (lt_of_block hg) (hF g rfl)).trans hg, rest⟩
theorem lst_below {w w' : World} {v : Value} {xs : List Int} (h : Sl.Lst w v xs) (hb : Below w.heap.size w w') : Sl.Lst w' v xs := lst_mod h (Mod.of_below hb (fun _ => False)) fun _ _ q => q
theorem lst_slice {w : World} {ao : Option Addr} {ac : Nat} {xs : List Int} (h : Sl.Lst w (.slice ao xs.length ac) xs) (hs : xs.length ≤ 2000000) : Rs.Words w ao xs := by
  obtain ⟨a, c, e, hw⟩ := h.words hs
  simp only [Value.slice.injEq] at e
  obtain ⟨rfl, _, rfl⟩ := e
  exact hw
namespace Cp
def eo1Rel (w0 : World) (eb rb : Nat) (n : Nat) (vi : Value) (wr : World) : Prop :=
  ∃ (i : Nat) (a : EAt) (E : En) (b : RAt) (R : List Rp) (F : En), i ≤ n ∧ vi = .int .i64 i ∧ EPair w0 wr a E b R F ∧ En.Like E F ∧ a.eb = eb ∧ b.eb = rb
def eo2Rel (w5 : World) (a : EAt) (E : En) (n : Nat) (vi : Value) (wr : World) : Prop :=
  ∃ (i : Nat) (a' : EAt), i ≤ n ∧ vi = .int .i64 i ∧ EStep w5 wr a E a' E
def eo3Rel (w6 : World) (vi : Value) (wr : World) : Prop := ∃ i : Nat, i ≤ 16 ∧ vi = .int .i64 i ∧ wr = w6
set_option maxRecDepth 100000 in
set_option maxHeartbeats 16000000 in
theorem envOver (w : World) (x : St) (hp : x.pre w) (a1 : Option Addr) (len1 cap1 : Nat) (Z1 : Nat → ActR) (hZ1 : Acts w a1 len1 Z1) (hl1 : len1 ≤ 9223372036854775807) (a2 : Option Addr) (len2 cap2 : Nat) (Z2 : Nat → ActR) (hZ2 : Acts w a2 len2 Z2) (hl2 : len2 ≤ 9223372036854775807) (code : Int) :
    Calls Tryz.prog 7 #[.agg x.cells, .slice a1 len1 cap1, .slice a2 len2 cap2, .int .u32 code] w fun e w' => e = .returned (.bool true) ∧ Below w.heap.size w w' := by
  have hb : Below w.heap.size w (w.alloc (.cells x.cells 55)) := (Below.refl _ _).alloc (Nat.le_refl _) _
  have hbx : StBox (w.alloc (.cells x.cells 55)) w.heap.size x := ⟨heap_alloc_new w _⟩
  have HZ1 := Lib.hid hZ1
  have HZ2 := Lib.hid hZ2
  have HHv1 := Lib.hid fun V (hV : Below w.heap.size w V) => heavy21 V x a1 len1 cap1 Z1 ⟨fun hn => by
    obtain ⟨b, off, e, hc⟩ := hZ1.at' hn
    exact ⟨b, off, e, fun i hi => (hc i hi).below hV⟩, hZ1.ok⟩ hl1
  have HHv2 := Lib.hid fun V (hV : Below w.heap.size w V) => heavy21 V x a2 len2 cap2 Z2 ⟨fun hn => by
    obtain ⟨b, off, e, hc⟩ := hZ2.at' hn
    exact ⟨b, off, e, fun i hi => (hc i hi).below hV⟩, hZ2.ok⟩ hl2
  have hmade : heavyV x = false → ∀ V, Below w.heap.size w V → Calls Tryz.prog 43 #[.int .i64 1, .agg x.cells] V (Made21 V 1 x) := fun hh V hV => made21 V 1 x (hp.toOk hV hh)
  have HMd := Lib.hid hmade
  have HB := Lib.hid hb
  have HBx := Lib.hid hbx
  obtain ⟨b0, b1, b2, b3, b4, b5, b6⟩ := hbx.cells
  clear hmade hb hbx hp hZ1 hZ2
  unfold St.cells at *
  go_enter Tryz.func7, Tryz.ntmps7
  go_wp2_with fail
  refine (HHv1.out _ HB.out).mono ?_
  rintro e w1 ⟨h1, rfl, hh1, hb1⟩
  have HB1 := Lib.hid (below_th HB.out hb1)
  have hbx1 := HBx.out.below hb1 (by simp)
  have HBx1 := Lib.hid hbx1
  obtain ⟨b0, b1, b2, b3, b4, b5, b6⟩ := hbx1.cells
  have HH1 := Lib.hid hh1
  clear hb1 hh1 hbx1 HHv1 HBx
  cases h1 with
  | true =>
    go_wp2_with fail
    refine (alive21 _).mono ?_
    rintro e w2 ⟨rfl, hb2⟩
    have HB2 := Lib.hid (below_th HB1.out hb2)
    clear hb2
    go_wp2
    go_ret
    exact ⟨rfl, HB2.out⟩
  | false =>
    go_wp2_with fail
    refine (HHv2.out _ HB1.out).mono ?_
    rintro e w2 ⟨h2, rfl, _, hb2⟩
    have HB2 := Lib.hid (below_th HB1.out hb2)
    have hlt1 : w.heap.size < w1.heap.size := lt_of_block HBx1.out.blk
    have hbx2 := HBx1.out.below hb2 hlt1
    obtain ⟨b0, b1, b2, b3, b4, b5, b6⟩ := hbx2.cells
    clear hb2 hbx2 HHv2 HBx1 hlt1
    cases h2 with
    | true =>
      go_wp2_with fail
      refine (alive21 _).mono ?_
      rintro e w3 ⟨rfl, hb3⟩
      have HB3 := Lib.hid (below_th HB2.out hb3)
      clear hb3
      go_wp2
      go_ret
      exact ⟨rfl, HB3.out⟩
    | false =>
      have HMm := Lib.hid (HMd.out (HH1.out (by first | rfl | trivial)).1 w2 HB2.out)
      have hln1 := (HH1.out (by first | rfl | trivial)).2
      clear HMd HH1
      go_wp2_with fail
      refine HMm.out.mono ?_
      rintro e w3 hm3
      unfold Made21 at hm3
      rw [if_pos (by omega)] at hm3
      obtain ⟨a, E, b, R, F, rfl, hep, hlk, _⟩ := hm3
      have HP := Lib.hid (hep.weaken HB2.out)
      have HL := Lib.hid hlk
      obtain ⟨eb, heb⟩ : ∃ e, a.eb = e := ⟨_, rfl⟩
      obtain ⟨rb, hrb⟩ : ∃ e, b.eb = e := ⟨_, rfl⟩
      have HEb := Lib.hid (⟨heb, hrb⟩ : _ ∧ _)
      rw [heb, hrb]
      clear hep hlk b0 b1 b2 b3 b4 b5 b6 HMm heb hrb
      go_wp2
      go_loopw [12] (fun vi wr => eo1Rel w eb rb len1 vi wr) (fun vi _ => len1 - (intOf vi).toNat)
      case atStart => exact ⟨0, a, E, b, R, F, Nat.zero_le _, by go_num, HP.out, HL.out, HEb.out.1, HEb.out.2⟩
      case round =>
        clear HP HL HEb
        obtain ⟨i, a, E, b, R, F, hi, rfl, hp, hl, rfl, rfl⟩ := hrel
        have HP := Lib.hid hp
        have HL := Lib.hid hl
        clear hp hl
        by_cases hin : i < len1
        · obtain ⟨ab, ao, rfl, hc⟩ := HZ1.out.at' (by omega)
          have hac := (hc i hin).below (HP.out.bel)
          have HOk := Lib.hid (HZ1.out.ok i hin)
          generalize Z1 i = z at *
          have z0 := hac.dod
          have z1 := hac.n
          have z2 := hac.m
          have z3 := hac.text
          have hD := does21 HP.out HL.out z HOk.out
          unfold ActR.cells at hD
          have HD := Lib.hid hD
          clear hac hc hD
          go_wp2_with fail
          refine HD.out.mono ?_
          rintro e w4 ⟨a', E', b', R', F', rfl, hp', hl', he1, he2⟩
          have HN := Lib.hid (⟨hp', hl', he1, he2⟩ : _ ∧ _ ∧ _ ∧ _)
          clear hp' hl' he1 he2 z0 z1 z2 z3 HD HP HL
          go_wp2
          exact ⟨⟨i + 1, a', E', b', R', F', by omega, by go_num, HN.out.1, HN.out.2.1, HN.out.2.2.1, HN.out.2.2.2⟩, by simp [intOf]; omega⟩
        · obtain rfl : i = len1 := by omega
          clear HL
          go_wp2_with fail
          refine (Ev.exit HP.out.env code).mono ?_
          rintro e w4 ⟨rfl, hs4⟩
          have HP4 := Lib.hid (HP.out.left hs4)
          have hkd := En.exit_kind E code
          clear hs4 HP
          generalize E.exit code = E1 at *
          have hkb : (E1.kind == 2) = false := beq_eq_false_iff_ne.2 hkd
          have HKd := Lib.hid hkd
          clear hkd
          go_wp2_with fail
          refine (Ev.state HP4.out.env).mono ?_
          rintro e w5 ⟨rfl, hb5⟩
          have HP5 := Lib.hid (HP4.out.below hb5)
          clear hb5 HP4
          go_wp2_with fail
          refine (Ev.cpu HP5.out.env).mono ?_
          rintro e w6 ⟨rfl, rfl⟩
          go_wp2_with fail
          refine (pc_ok HP5.out.env.cp).mono ?_
          rintro e w6 ⟨rfl, rfl⟩
          go_wp2_with fail
          refine (Ev.console HP5.out.env).mono ?_
          rintro e w6 ⟨rfl, rfl⟩
          go_wp2_with fail
          refine (Ev.own HP5.out.env).mono ?_
          rintro e w6 ⟨v, rfl, hl6, hv6, hb6⟩
          have hp6 := HP5.out.below hb6
          obtain ⟨ao, ac, rfl⟩ := SlV.form hl6
          have hbb : Below w6.heap.size w6 (w6.alloc (.cells #[.int .u8 E1.kind, .int .u32 E1.code, .int .i64 E1.why] 36)) := (Below.refl _ _).alloc (Nat.le_refl _) _
          have HP7 := Lib.hid (hp6.below hbb)
          have hk7 := Kept.newC hp6.env #[.int .u8 E1.kind, .int .u32 E1.code, .int .i64 E1.why] 36
          have HK7 := Lib.hid hk7
          have hown : ∀ g, (Value.slice ao E1.own.length ac).ownBlock = some g → w5.heap.size ≤ g := hv6
          have HOw := Lib.hid (⟨lst_below hl6 hbb, fun g hg q => absurd (HP5.out.env.lt _ q) (Nat.not_lt.2 (hown g hg))⟩ : Sl.Lst (w6.alloc (.cells #[.int .u8 E1.kind, .int .u32 E1.code, .int .i64 E1.why] 36)) (.slice ao E1.own.length ac) E1.own ∧ ∀ g, (Value.slice ao E1.own.length ac).ownBlock = some g → ¬ a.foot E1.A g)
          clear hl6 hv6 hb6 hp6 hbb hk7 hown HP5
          have HOv := Lib.hid (En.over HKd.out)
          go_wp2_with fail
          refine (Ev.space HP7.out.env).mono ?_
          rintro e w8 ⟨rfl, rfl⟩
          go_wp2_with fail
          refine (Sp.copy HP7.out.env.sp).mono ?_
          rintro e w8 ⟨so, mo, C, rfl, hs8, hcc, hf8, hb8⟩
          have HP8 := Lib.hid (HP7.out.below hb8)
          have HK8 := Lib.hid (HK7.out.below hb8)
          have HO8 := Lib.hid (⟨lst_below HOw.out.1 hb8, HOw.out.2⟩ : _ ∧ _)
          have HS8 := Lib.hid (⟨hs8, hcc, fun k hk q => absurd (HP7.out.env.lt k q) (Nat.not_lt.2 (hf8 k hk))⟩ : Spc w8 so mo C ∧ cores C = cores E1.A ∧ ∀ k, Spc.foot so mo C k → ¬ a.foot E1.A k)
          clear hs8 hcc hf8 hb8 HP7 HK7 HOw
          go_wp2_with fail
          refine (Ev.cpu HP8.out.env).mono ?_
          rintro e w9 ⟨rfl, rfl⟩
          go_wp2_with fail
          refine (copy HP8.out.env.cp).mono ?_
          rintro e w9 ⟨rfl, hc9, hb9⟩
          have HP9 := Lib.hid (HP8.out.below hb9)
          have HK9 := Lib.hid (HK8.out.below hb9)
          have HO9 := Lib.hid (⟨lst_below HO8.out.1 hb9, HO8.out.2⟩ : _ ∧ _)
          have HS9 := Lib.hid (⟨HS8.out.1.below hb9 fun _ hk => HS8.out.1.lt hk, HS8.out.2⟩ : _ ∧ _)
          have HC9 := Lib.hid (⟨hc9, fun q => Nat.lt_irrefl _ (HP8.out.env.lt _ q)⟩ : Cpu 116 w9 w8.heap.size E1.r E1.pc ∧ ¬ a.foot E1.A w8.heap.size)
          obtain ⟨eb2, heb2⟩ : ∃ q, w8.heap.size = q := ⟨_, rfl⟩
          rw [heb2] at HC9
          have k0 := HK9.out.cell 0 _ rfl
          clear hc9 hb9 HP8 HK8 HO8 HS8
          simp only [heb2]
          clear heb2
          go_wp2
          obtain ⟨kb, hkb7⟩ : ∃ q, w6.heap.size = q := ⟨_, rfl⟩
          simp only [hkb7] at HK9 ⊢
          clear hkb7
          go_loopw [19, 20] (fun vi _ wr => eo2Rel w9 a E1 len2 vi wr) (fun vi _ _ => len2 - (intOf vi).toNat)
          case atStart => exact ⟨0, a, Nat.zero_le _, by go_num, EStep.refl HP9.out.env⟩
          case round =>
            clear k0
            obtain ⟨i, a', hi, rfl, hst⟩ := hrel
            have HSt := Lib.hid hst
            have HPr := Lib.hid (HP9.out.left hst)
            clear hst
            by_cases hin : i < len2
            · obtain ⟨ab, ao2, rfl, hc⟩ := HZ2.out.at' (by omega)
              have hac := (hc i hin).below HPr.out.bel
              have HOk := Lib.hid (HZ2.out.ok i hin)
              generalize Z2 i = z at *
              have z0 := hac.dod
              have z1 := hac.n
              have z3 := hac.text
              clear hac hc
              by_cases e0 : z.dod = 0
              · rw [e0] at z0
                obtain ⟨⟨sk, su, sy⟩, hstp⟩ : ∃ q, E1.stop = q := ⟨_, rfl⟩
                have hG := Ev.step HPr.out.env
                rw [hstp] at hG
                clear hstp
                simp only at hG
                rw [HSt.out.same.1] at hG
                rw [HOv.out.1.2.1, HOv.out.1.1] at hG
                have HG := Lib.hid hG
                clear hG
                go_wp2_with fail
                refine HG.out.mono ?_
                rintro e wx ⟨rfl, hs5⟩
                have HN := Lib.hid (HSt.out.trans hs5)
                clear hs5 z0 z1 z3 HG
                go_wp2
                exact ⟨⟨i + 1, _, by omega, by go_num, HN.out⟩, by simp [intOf]; omega⟩
              by_cases e1 : z.dod = 1
              · rw [e1] at z0
                have hG := Ev.exit HPr.out.env z.n
                rw [HSt.out.same.1] at hG
                rw [HOv.out.1.2.1, HOv.out.1.2.2] at hG
                have HG := Lib.hid hG
                clear hG
                go_wp2_with fail
                refine HG.out.mono ?_
                rintro e wx ⟨rfl, hs5⟩
                have HN := Lib.hid (HSt.out.trans hs5)
                clear hs5 z0 z1 z3 HG
                go_wp2
                exact ⟨⟨i + 1, _, by omega, by go_num, HN.out⟩, by simp [intOf]; omega⟩
              by_cases e2 : z.dod = 2
              · rw [e2] at z0
                have hG := Ev.page HPr.out.env z.n HOk.out.n0 HOk.out.n1
                rw [HSt.out.same.1] at hG
                simp only [(HOv.out.2.1 z.n 0).1, fun b => (HOv.out.2.1 z.n b).2] at hG
                have HG := Lib.hid hG
                clear hG
                go_wp2_with fail
                refine HG.out.mono ?_
                rintro e wx ⟨blk, lv, rfl, hs5⟩
                have HN := Lib.hid (HSt.out.trans hs5)
                clear hs5 z0 z1 z3 HG
                go_wp2
                exact ⟨⟨i + 1, _, by omega, by go_num, HN.out⟩, by simp [intOf]; omega⟩
              by_cases e3 : z.dod = 3
              · rw [e3] at z0
                have hG := Ev.drop HPr.out.env z.n HOk.out.n0 HOk.out.n1
                rw [HSt.out.same.1] at hG
                rw [(HOv.out.2.2.1 z.n).1, (HOv.out.2.2.1 z.n).2] at hG
                have HG := Lib.hid hG
                clear hG
                go_wp2_with fail
                refine HG.out.mono ?_
                rintro e wx ⟨lv, rfl, hs5⟩
                have HN := Lib.hid (HSt.out.trans hs5)
                clear hs5 z0 z1 z3 HG
                go_wp2
                exact ⟨⟨i + 1, _, by omega, by go_num, HN.out⟩, by simp [intOf]; omega⟩
              by_cases e4 : z.dod = 4
              · rw [e4] at z0
                have hG := Ev.put HPr.out.env z.text HOk.out.t1
                rw [HSt.out.same.1] at hG
                rw [(HOv.out.2.2.2 z.text).1, (HOv.out.2.2.2 z.text).2] at hG
                have HG := Lib.hid hG
                clear hG
                go_wp2_with fail
                refine HG.out.mono ?_
                rintro e wx ⟨rfl, hs5⟩
                have HN := Lib.hid (HSt.out.trans hs5)
                clear hs5 z0 z1 z3 HG
                go_wp2
                exact ⟨⟨i + 1, _, by omega, by go_num, HN.out⟩, by simp [intOf]; omega⟩
              have d0 : (z.dod == 0) = false := beq_eq_false_iff_ne.2 e0
              have d1 : (z.dod == 1) = false := beq_eq_false_iff_ne.2 e1
              have d2 : (z.dod == 2) = false := beq_eq_false_iff_ne.2 e2
              have d3 : (z.dod == 3) = false := beq_eq_false_iff_ne.2 e3
              have d4 : (z.dod == 4) = false := beq_eq_false_iff_ne.2 e4
              clear e0 e1 e2 e3 e4
              go_wp2
              exact ⟨⟨i + 1, a', by omega, by go_num, HSt.out⟩, by simp [intOf]; omega⟩
            · obtain rfl : i = len2 := by omega
              have HC := Lib.hid (HC9.out.1.keep HSt.out.mod HC9.out.2)
              go_wp2
              go_loopw [21, 22, 23] (fun vi _ _ wq => eo3Rel wr vi wq) (fun vi _ _ _ => 16 - (intOf vi).toNat)
              case atStart => exact ⟨0, by omega, by go_num, rfl⟩
              case round =>
                obtain ⟨j, hj, rfl, rfl⟩ := hrel
                by_cases hj2 : j < 16
                · have hg1 := reg_ok HC.out j hj2
                  have hg2 := Ev.arg HPr.out.env j (by omega) (by omega)
                  rw [HSt.out.same.1] at hg2
                  have hae : E1.arg j = rg E1.r j := by unfold En.arg; rw [if_pos (by omega)]
                  rw [hae] at hg2
                  generalize rg E1.r j = rv at *
                  have HG1 := Lib.hid hg1
                  have HG2 := Lib.hid hg2
                  clear hg1 hg2 hae
                  go_wp2_with fail
                  refine HG1.out.mono ?_
                  rintro e wx ⟨rfl, rfl⟩
                  go_wp2_with fail
                  refine HG2.out.mono ?_
                  rintro e wx ⟨rfl, rfl⟩
                  go_wp2
                  exact ⟨⟨j + 1, by omega, by go_num, rfl⟩, by simp [intOf]; omega⟩
                · obtain rfl : j = 16 := by omega
                  have hae := HSt.out.same.1
                  have hOk := HPr.out.env.ok.len
                  have HSta := Lib.hid fun V (hV : Below wr.heap.size wr V) => (by have := Ev.state (HPr.out.below hV).env; rw [hae] at this; exact this : Calls Tryz.prog 13 #[.pointer (some ⟨a.eb, 0, none⟩)] V _)
                  have HCpu := Lib.hid fun V (hV : Below wr.heap.size wr V) => (by have := Ev.cpu (HPr.out.below hV).env; rw [hae] at this; exact this : Calls Tryz.prog 15 #[.pointer (some ⟨a.eb, 0, none⟩)] V _)
                  have HPc := Lib.hid fun V (hV : Below wr.heap.size wr V) => pc_ok (HPr.out.below hV).env.cp
                  have HCon := Lib.hid fun V (hV : Below wr.heap.size wr V) => (by have := Ev.console (HPr.out.below hV).env; rw [hae] at this; exact this : Calls Tryz.prog 21 #[.pointer (some ⟨a.eb, 0, none⟩)] V _)
                  have HOwn := Lib.hid fun V (hV : Below wr.heap.size wr V) => (by have := Ev.own (HPr.out.below hV).env; rw [hae] at this; exact this : Calls Tryz.prog 19 #[.pointer (some ⟨a.eb, 0, none⟩)] V _)
                  have HSpa := Lib.hid fun V (hV : Below wr.heap.size wr V) => (by have := Ev.space (HPr.out.below hV).env; rw [hae] at this; exact this : Calls Tryz.prog 14 #[.pointer (some ⟨a.eb, 0, none⟩)] V _)
                  have HSC := HS9.out.1.keep HSt.out.mod HS9.out.2.2
                  have HSam := Lib.hid fun V (hV : Below wr.heap.size wr V) => same21 (HPr.out.below hV).env.sp (HSC.below hV fun _ hk => HSC.lt hk) HS9.out.2.1.symm
                  have HL16 := lst_mod HO9.out.1 HSt.out.mod HO9.out.2
                  have HW16 := Lib.hid fun V (hV : Below wr.heap.size wr V) => lst_slice (lst_below HL16 hV) hOk
                  have HOl := Lib.hid hOk
                  have hkk : Kept wr _ _ kb _ := HK9.out.step HSt.out
                  have hkc := hkk
                  have HKk := Lib.hid hkk
                  have k0 := hkk.cell 0 _ rfl
                  have k1 := hkk.cell 1 _ rfl
                  have k2 := hkk.cell 2 _ rfl
                  have se := fun W => eqState E1.kind E1.code E1.why W
                  have HBq := Lib.hid HPr.out.bel
                  clear hae hOk HSC HL16 hkk hkc
                  try clear HC
                  try clear HOv
                  try clear HKd
                  try clear hkb
                  try clear HS9
                  try clear HO9
                  try clear HK9
                  try clear HC9
                  try clear HSt
                  try clear HPr
                  try clear HP9
                  try clear HZ1
                  try clear HZ2
                  try clear HB1
                  try clear HB2
                  try clear HB
                  try clear hln1
                  try clear b0
                  try clear b1
                  try clear b2
                  try clear b3
                  try clear b4
                  try clear b5
                  try clear b6
                  try clear hj
                  try clear hj2
                  try clear hi
                  try clear hin
                  go_wp2_with fail
                  go_region_with (first
                    | (go_at_call 13
                       refine (HSta.out _ (by first | exact Below.refl _ _ | exact (Below.refl _ _).drew)).mono ?_
                       rintro e x1 ⟨rfl, hx1⟩
                       have hb1 : Below wr.heap.size wr x1 := below_th (by first | exact Below.refl _ _ | exact (Below.refl _ _).drew) hx1
                       have k0a := (HKk.out.below hb1).cell 0 _ rfl
                       have k1a := (HKk.out.below hb1).cell 1 _ rfl
                       have k2a := (HKk.out.below hb1).cell 2 _ rfl)
                    | (go_at_call 15
                       refine (HCpu.out _ hb1).mono ?_
                       rintro e x2 ⟨rfl, rfl⟩)
                    | (go_at_call 41
                       refine (HPc.out _ hb1).mono ?_
                       rintro e x2 ⟨rfl, rfl⟩)
                    | (go_at_call 21
                       refine (HCon.out _ hb1).mono ?_
                       rintro e x2 ⟨rfl, rfl⟩)
                    | (go_at_call 19
                       refine (HOwn.out _ hb1).mono ?_
                       rintro e x5 ⟨v5, rfl, hl5, hv5, hx5⟩
                       have hb5 : Below wr.heap.size wr x5 := below_th hb1 hx5
                       obtain ⟨o5, c5, rfl, hw5⟩ := hl5.words HOl.out
                       have HSw := Lib.hid (Rs.sameWords (ca := c5) (cb := ac) hw5 (HW16.out _ hb5))
                       rw [decide_eq_true rfl] at HSw)
                    | (go_at_call 38
                       refine HSw.out.mono ?_
                       rintro e x6 ⟨rfl, hx6⟩
                       have hb6 : Below wr.heap.size wr x6 := below_th hb5 hx6)
                    | (go_at_call 14
                       refine (HSpa.out _ hb6).mono ?_
                       rintro e x7 ⟨rfl, rfl⟩)
                    | (go_at_call 45
                       refine (HSam.out _ hb6).mono ?_
                       rintro e x8 ⟨rfl, hx8⟩
                       have hb8 : Below wr.heap.size wr x8 := below_th hb6 hx8)
                    | (go_at_call 9
                       refine (alive21 _).mono ?_
                       rintro e x9 ⟨rfl, hx9⟩
                       have hb9 : Below wr.heap.size wr x9 := below_th hb8 hx9))
                  all_goals
                    have HF := Lib.hid (HBq.out.trans (hb9.mono HBq.out.size))
                    try clear k0
                    try clear k1
                    try clear k2
                    try clear k0a
                    try clear k1a
                    try clear k2a
                    try clear HSta
                    try clear HCpu
                    try clear HPc
                    try clear HCon
                    try clear HOwn
                    try clear HSpa
                    try clear HSam
                    try clear HW16
                    try clear HKk
                    try clear se
                    try clear hw5
                    try clear HSw
                    try clear hl5
                    try clear hx1
                    try clear hx5
                    try clear hx6
                    try clear hx8
                    try clear hx9
                    try clear hv5
                    go_wp2
                    first
                      | (go_ret; exact ⟨rfl, HF.out⟩)
                      | exact ⟨rfl, HF.out⟩
theorem envOverL (w : World) (x : St) (hp : x.pre w) (a1 : Option Addr) (cap1 : Nat) (xs1 : List ActR) (sl1 : Rd.Sl w 4 actQ a1 cap1 xs1) (sz1 : xs1.length * Tryz.prog.bytesOf 24 < 140737488355328) (a2 : Option Addr) (cap2 : Nat) (xs2 : List ActR) (sl2 : Rd.Sl w 4 actQ a2 cap2 xs2) (sz2 : xs2.length * Tryz.prog.bytesOf 24 < 140737488355328) (code : Int) (c0 : 0 ≤ code) (c1 : code ≤ 4294967295) :
    Calls Tryz.prog 7 #[.agg x.cells, .slice a1 xs1.length cap1, .slice a2 xs2.length cap2, .int .u32 code] w fun e w' => e = .returned (.bool true) ∧ Below w.heap.size w w' := by
  have hb : Tryz.prog.bytesOf 24 = 32 := by kernel_rfl
  rw [hb] at sz1 sz2
  exact envOver w x hp a1 xs1.length cap1 _ (sl_acts sl1) (by omega) a2 xs2.length cap2 _ (sl_acts sl2) (by omega) code
end Cp
end Go.Proofs.YtldmglodjafklaaGreat
