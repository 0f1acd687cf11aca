/- The walk of SchedFair, second part. -/
import Derived.Test.YthgddpgifdhnjaaGreatSfSchF
namespace Go.Proofs.YthgddpgifdhnjaaGreat
open Go.RowKit
set_option linter.unusedVariables false
set_option linter.unusedSimpArgs false
namespace Fr
def w1Rel (w : World) (f : Nat → Int) (m : Nat) (vl vi : Value) (wr : World) : Prop := ∃ i : Nat, i ≤ m ∧ vi = .int .i64 i ∧ IRow wr w.heap.size vl (wl f i) ∧ Below w.heap.size w wr
structure W2 (w : World) (f : Nat → Int) (m sl xb kb sb : Nat) (S : Nat → Slt) (lv : Value) (A : Nat → EAt) (tag : Nat → Nat) (ra : Option Addr) (ub lb k : Nat) (wr : World) : Prop where
  rg : RgC wr xb kb sb sl m (wtF f) S (.slice none 0 0) lv A tag k
  u : Arr wr ub (usF m (wtF f) sl k)
  l : Arr wr lb (laF m (wtF f) sl k)
  r : Cp.RowN .i64 wr ra m fun j => wtF f j
  b : Below w.heap.size w wr
theorem W2.below {w : World} {f : Nat → Int} {m sl xb kb sb : Nat} {S : Nat → Slt} {lv : Value} {A : Nat → EAt} {tag : Nat → Nat} {ra : Option Addr} {ub lb k : Nat} {wr wr' : World} (h : W2 w f m sl xb kb sb S lv A tag ra ub lb k wr) (hb : Below wr.heap.size wr wr') : W2 w f m sl xb kb sb S lv A tag ra ub lb k wr' :=
  ⟨h.rg.below hb, h.u.below hb, h.l.below hb, row_mod h.r (Mod.of_below hb fun _ => False) fun _ _ _ => id, h.b.trans (hb.mono h.b.size)⟩
def w2Rel (w : World) (f : Nat → Int) (m sl xb kb sb : Nat) (S : Nat → Slt) (lv : Value) (A : Nat → EAt) (tag : Nat → Nat) (ra : Option Addr) (ub lb : Nat) (TT : Nat) (vi : Value) (wr : World) : Prop :=
  ∃ k : Nat, k ≤ TT ∧ vi = .int .i64 ((k : Int) + 1) ∧ W2 w f m sl xb kb sb S lv A tag ra ub lb k wr
def w3Rel (w6 : World) (m : Nat) (va : Value) (wr : World) : Prop := ∃ a : Nat, 1 ≤ a ∧ a ≤ m + 1 ∧ va = .int .i64 a ∧ Below w6.heap.size w6 wr
set_option maxRecDepth 100000 in
set_option maxHeartbeats 20000000 in
theorem schedFair (w : World) {a : Option Addr} {n cap : Nat} {f : Nat → Int} (hr : Cp.RowN .u8 w a n f) (hf : ∀ i, i < n → 0 ≤ f i ∧ f i ≤ 255) (hn : n ≤ 9223372036854775807) (s : Int) (s0 : 0 ≤ s) (s1 : s ≤ 255) (tu : Int) (t0 : 0 ≤ tu) (t1 : tu ≤ 65535) :
    Calls Tryz.prog 3 #[.slice a n cap, .int .u8 s, .int .u16 tu] w fun e w' => e = .returned (.bool true) ∧ Below w.heap.size w w' := by
  obtain ⟨m, hm⟩ : ∃ m, m = min n 8 := ⟨_, rfl⟩
  have hmn : m ≤ n ∧ m ≤ 8 ∧ (m < n → m = 8) := by omega
  obtain ⟨m1, m2, m3⟩ := hmn
  have HM := Lib.hid (And.intro m1 (And.intro m2 m3))
  have HR := Lib.hid hr
  have HF := Lib.hid hf
  have HR0 : Hid (w1Rel w f m (.slice none 0 0) (.int .i64 0) w) := Lib.hid ⟨0, by omega, rfl, World.ownsRow_nil _ _ _ _, Below.refl _ _⟩
  clear hm hr hf m1 m2 m3
  go_enter Tryz.func3, Tryz.ntmps3
  go_wp2
  go_loopw [7, 8] (fun vl vi wr => w1Rel w f m vl vi wr) (fun _ vi _ => m - (intOf vi).toNat)
  case atStart => exact HR0.out
  case round =>
    clear HR0
    obtain ⟨i, hi, rfl, hrow, hb⟩ := hrel
    have HRow := Lib.hid hrow
    have HB := Lib.hid hb
    have HSz := Lib.hid hb.size
    obtain ⟨m1, m2, m3⟩ := HM.out
    by_cases him : i < m
    · have h1 : (i : Int) < n := by omega
      have h2 : (i : Int) < 8 := by omega
      obtain ⟨ab, ao, rfl, hal, hac⟩ := HR.out (by omega)
      have hc := (hb.cell (p := ⟨ab, ao + i, none⟩) hal).trans (hac i (by omega))
      obtain ⟨f0, f1⟩ := HF.out i (by omega)
      have hw1 : (1 : Int) + f i % 16 = (wtF f i : Nat) := by unfold wtF; omega
      have HW1 := Lib.hid hw1
      have HNew := Lib.hid fun (o : Obj) => heap_alloc_new wr o
      have HAl := Lib.hid fun (o : Obj) => (Below.refl wr.heap.size wr).alloc (Nat.le_refl _) o
      clear hrow hb hal hac m1 m2 m3 hw1
      have HLen : Hid ((wl f i).length ≤ 1000000) := Lib.hid (by rw [wl_length]; omega)
      go_wp2_with (first
        | (at_builtin; refine wpList_app_int (by rfl) _ _ (by rfl) w.heap.size _ _ (by rfl) (row_keep HRow.out fun k hk => (HAl.out _).block k (World.ownsRow.lt HRow.out k hk).2) _ (wtF f i) (by rfl) (by rw [← HW1.out]; exact HNew.out _) HLen.out (Nat.le_trans HSz.out (HAl.out _).size) ?_; intro v' w5 hr5 hg5))
      refine ⟨⟨i + 1, by omega, by go_num, by rw [wl_succ]; exact hr5, (HB.out.alloc HSz.out _).grown hg5 (Nat.le_trans HSz.out (HAl.out _).size) fun k e => (World.ownsRow.lt HRow.out k e).1⟩, by simp [intOf]; omega⟩
    · obtain rfl : i = m := by omega
      have h1 : (i : Int) < n → ¬ (i : Int) < 8 := fun q => by have := m3 (by omega); omega
      obtain ⟨ra, rc, rfl, hrn⟩ := hrow.form
      rw [wl_length] at hrn ⊢
      have hrn2 : Cp.RowN .i64 wr ra i fun j => wtF f j := fun q => by
        obtain ⟨b, o, e1, e2, e3⟩ := hrn q
        exact ⟨b, o, e1, e2, fun j hj => by rw [e3 j hj]; simp only [wl_at f hj]⟩
      obtain ⟨sl, hsl⟩ : ∃ sl : Nat, 1 + s.toNat % 12 = sl := ⟨_, rfl⟩
      have hsli : (1 : Int) + s % 12 = (sl : Nat) := by omega
      have HSl := Lib.hid hsli
      have HSb : Hid (1 ≤ sl ∧ sl ≤ 12) := Lib.hid (by omega)
      have HBg := Lib.hid (Bg.begun wr (c := rc) (sl := sl) hrn2 (fun j _ => wt_bd f j) m2 (by omega) (by omega))
      have HRn := Lib.hid hrn2
      clear hrow hb m1 m2 m3 hsli hsl hrn hrn2
      by_cases hin : (i : Int) < n
      all_goals
        (try have h8 := h1 hin)
        clear h1
        go_wp2_with fail
        rw [HSl.out]
        refine HBg.out.mono ?_
        rintro e w2 ⟨xb, kb, sb, S, lv, A, tag, rfl, hrg, htag, hb2⟩
        obtain ⟨TT, hT⟩ : ∃ TT : Nat, tu.toNat % 700 = TT := ⟨_, rfl⟩
        have hTi : tu % 700 = (TT : Int) := by omega
        have HT := Lib.hid hTi
        have hT7 : TT ≤ 700 := by omega
        have hz2 := hb2.size
        obtain ⟨ub, hub⟩ : ∃ ub, w2.heap.size = ub := ⟨_, rfl⟩
        have hA := (Below.refl w2.heap.size w2).alloc (Nat.le_refl _) (.cells (arr fun _ => 0) 29)
        have hkA := heap_alloc_new w2 (.cells (arr fun _ => 0) 29)
        have hzA : (w2.alloc (.cells (arr fun _ => 0) 29)).heap.size = ub + 1 := by simp [hub]
        have hB := hA.alloc hA.size (.cells (arr fun _ => 0) 29)
        have hkB := heap_alloc_new (w2.alloc (.cells (arr fun _ => 0) 29)) (.cells (arr fun _ => 0) 29)
        have hkA2 := (Below.heap_alloc (w2.alloc (.cells (arr fun _ => 0) 29)) (.cells (arr fun _ => 0) 29) _ (lt_of_block hkA)).trans hkA
        rw [hub] at hkA2
        rw [hzA] at hkB
        have htu := hrg.tag0 (b := ub) (by omega)
        have htl := hrg.tag0 (b := ub + 1) (by omega)
        have htr : ∀ b o, ra = some ⟨b, o, none⟩ → 0 < i → b < wr.heap.size ∧ tag b = 0 := fun b o e q => by
          obtain ⟨b', o', e1, e2, _⟩ := HRn.out q
          rw [e1] at e
          simp only [Option.some.injEq, Addr.mk.injEq] at e
          obtain ⟨rfl, _⟩ := e
          refine ⟨e2, ?_⟩
          by_cases q : tag b' = 0
          · exact q
          · have := htag b' q; omega
        have HTags := Lib.hid (And.intro htu (And.intro htl htr))
        have HLow := Lib.hid fun k hk => Nat.le_trans HSz.out (htag k hk)
        have hbw : Below w.heap.size w (((w2.alloc (.cells (arr fun _ => 0) 29)).alloc (.cells (arr fun _ => 0) 29))) := below_th HB.out (below_th hb2 hB)
        have HR0 : Hid (w2Rel w f i sl xb kb sb S lv A tag ra ub (ub + 1) TT (.int .i64 1) ((w2.alloc (.cells (arr fun _ => 0) 29)).alloc (.cells (arr fun _ => 0) 29))) := Lib.hid ⟨0, by omega, rfl, hrg.below hB, Arr.congr ⟨_, hkA2⟩ fun t _ => (us_zero i (wtF f) sl t).symm, Arr.congr ⟨_, hkB⟩ fun t _ => (la_zero i (wtF f) sl t).symm, row_mod HRn.out (Mod.of_below (below_th hb2 hB) fun _ => False) fun _ _ _ => id, hbw⟩
        have HU : Hid (w.heap.size ≤ ub ∧ wr.heap.size ≤ ub) := Lib.hid ⟨by have := HSz.out; omega, by omega⟩
        have HI : Hid (i ≤ 8) := Lib.hid HM.out.2.1
        rw [← hub] at HR0 HTags HU
        clear hrg htag hb2 hT hTi hz2 hub hA hkA hzA hB hkB hkA2 htu htl htr hbw HBg
        unfold arr at HR0
        go_wp2
        generalize w2.heap.size = ub at *
        go_loopw [14] (fun vi wr => w2Rel w f i sl xb kb sb S lv A tag ra ub (ub + 1) TT vi wr) (fun vi _ => TT + 1 - (intOf vi).toNat)
        case atStart => exact HR0.out
        case round =>
          clear HR0
          obtain ⟨k, hk, rfl, h2⟩ := hrel
          have H2 := Lib.hid h2
          clear h2
          by_cases hgo : k < TT ∧ 0 < i
          · obtain ⟨hkT, hi0⟩ := hgo
            have q1 : (k : Int) + 1 ≤ tu % 700 := by rw [HT.out]; omega
            have q2 : (0 : Int) < i := by omega
            have HTn := Lib.hid (H2.out.rg.turn hi0 (by omega))
            go_wp2_with fail
            refine HTn.out.mono ?_
            rintro e w3 ⟨rfl, hr3, hm3⟩
            obtain ⟨q, hq⟩ : ∃ q : Nat, Sc.who i (wtF f) sl k + 1 = q := ⟨_, rfl⟩
            have hqi : (Sc.who i (wtF f) sl k : Int) + 1 = (q : Int) := by omega
            have hql := Sc.who_lt (wt := wtF f) (sl := sl) hi0 k
            have hq1 : 1 ≤ q := by omega
            have hqm : q ≤ i := by omega
            rw [hqi]
            have HQ := Lib.hid hq
            obtain ⟨tg1, tg2, tg3⟩ := HTags.out
            have hu3 := H2.out.u.mod hm3 (fun e => e tg1)
            have hl3 := H2.out.l.mod hm3 (fun e => e tg2)
            have hr3' := row_mod H2.out.r hm3 (fun b o e q => q (tg3 b o e hi0).2)
            have hbw3 : Below w.heap.size w w3 := Mod.below H2.out.b hm3 H2.out.b.size fun k _ q => HLow.out k q
            have hk4 := heap_alloc_new w3 (.cells #[.int .i64 q, .int .i64 sl] 31)
            have hb4 := (Below.refl w3.heap.size w3).alloc (Nat.le_refl _) (.cells #[.int .i64 q, .int .i64 sl] 31)
            have htb : w3.heap.size ≠ ub ∧ w3.heap.size ≠ ub + 1 := ⟨by have := hu3.lt; omega, by have := hl3.lt; omega⟩
            have HW3 := Lib.hid (And.intro hr3 (And.intro hu3 (And.intro hl3 (And.intro hr3' hbw3))))
            clear hr3 hu3 hl3 hr3' hbw3 hm3 hqi hql hq tg1 tg2 tg3 HTn
            obtain ⟨c0, c1, cf⟩ := Rg.turn_cell (x := .int .i64 q) (y := .int .i64 sl) hk4
            have HK4 := Lib.hid hk4
            have HB4 := Lib.hid hb4
            have q3 : ¬ (q : Int) < 1 := by omega
            have q4 : ¬ (q : Int) > i := by omega
            clear hk4 hb4 cf
            go_wp2
            generalize w3.alloc (.cells #[.int .i64 q, .int .i64 sl] 31) = w4 at *
            obtain ⟨x1, x2, x3, x4, x5⟩ := HW3.out
            have hu4 := x2.below HB4.out
            have hl4 := x3.below HB4.out
            obtain ⟨u, hu, hu12⟩ := us_nat i (wtF f) (k := k) HSb.out.2 (by omega) q
            have hq9 : q < 9 := by have := HI.out; omega
            obtain ⟨d0, d1⟩ := hu4.cell hq9
            obtain ⟨d2, d3⟩ := hl4.cell hq9
            rw [hu] at d0
            have HW4 : Hid (RgC w4 xb kb sb sl i (wtF f) S (.slice none 0 0) lv A tag (k + 1) ∧ Arr w4 ub (usF i (wtF f) sl k) ∧ Arr w4 (ub + 1) (laF i (wtF f) sl k) ∧ (Cp.RowN .i64 w4 ra i fun j => wtF f j) ∧ Below w.heap.size w w4) := Lib.hid ⟨x1.below HB4.out, hu4, hl4, row_mod x4 (Mod.of_below HB4.out fun _ => False) fun _ _ _ => id, x5.trans (HB4.out.mono x5.size)⟩
            have HUq := Lib.hid hu
            have hsb := HSb.out
            have hwr : IntKind.i64.wrap ((u : Int) + sl) = (u : Int) + sl := IntWalk.i64_in _ (by omega)
            have q5 : (q : Int) < 9 := by omega
            have HTb := Lib.hid htb
            clear x1 x2 x3 x4 x5 hu4 hl4 hu
            refine LB (fun V => V.cell? ⟨w3.heap.size, 0, none⟩ = some (.int .i64 q) ∧ V.cell? ⟨ub, q, none⟩ = some (.int .i64 u)) 9 ⟨c0, d0⟩ fun wd hwd hS => ?_
            have HWd := Lib.hid hwd
            have hfr : wd.frozen? ⟨ub, q, none⟩ = false := by rw [hwd]; exact d1
            have HFr := Lib.hid hfr
            clear hwd hfr c0 c1 d0 d1 d2 d3 htb
            refine LT 0 hS ?_
            refine LT 1 hS ?_
            refine LT 2 hS ?_
            refine LT 3 hS ?_
            refine LT 4 hS ?_
            refine LT 5 hS ?_
            refine LT 6 hS ?_
            refine LT 7 hS ?_
            refine LU 8 fun K hK => ?_
            go_simp
            refine LV hK (fun _ => hS) ?_; clear hK K
            refine LU 9 fun K hK => ?_
            have hc9 := hS.2
            have hf9 := HFr.out
            go_simp
            refine LV hK (fun e => absurd rfl e) ?_; clear hK K
            refine E_done (by kernel_rfl) ?_ _
            clear hc9 hf9 hS hwr
            obtain ⟨x1, x2, x3, x4, x5⟩ := HW4.out
            obtain ⟨tg1, tg2, tg3⟩ := HTags.out
            have hm5 : Mod (fun j => j = ub) w4 (wd.setCell ⟨ub, q, none⟩ (.int .i64 (u + sl))) := (by rw [HWd.out]; exact (Mod.refl _ _).drew : Mod (fun j => j = ub) w4 wd).same (Mod.setCell (F := fun j => j = ub) (Mod.refl _ _) ⟨ub, q, none⟩ (.inl rfl) _)
            have hu5 : Arr (wd.setCell ⟨ub, q, none⟩ (.int .i64 (u + sl))) ub (usF i (wtF f) sl (k + 1)) := by
              have h := Arr.set (w := wd) (by rw [HWd.out]; exact x2) hq9 ((u : Int) + sl)
              refine h.congr fun t _ => ?_
              rw [us_succ hi0, HQ.out]
              by_cases e : t = q
              · rw [if_pos e, if_pos e, e, HUq.out]
              · rw [if_neg e, if_neg e]
            have hl5 := x3.mod hm5 (by omega)
            have hk5 := (hm5.block _ (lt_of_block HK4.out) HTb.out.1).trans HK4.out
            have hr5 := row_mod x4 hm5 (fun b o e z => by
              have h1 := (tg3 b o e hi0).1
              have h2 := HU.out.2
              omega)
            have hg5 := x1.keep0 (hm5.mono fun j _ e => by rw [e]; exact tg1)
            have hb5 : Below w.heap.size w (wd.setCell ⟨ub, q, none⟩ (.int .i64 (u + sl))) := Mod.below x5 hm5 x5.size fun j _ e => by rw [e]; exact HU.out.1
            generalize wd.setCell ⟨ub, q, none⟩ (.int .i64 (u + sl)) = w5 at *
            obtain ⟨c0, _, _⟩ := Rg.turn_cell (x := .int .i64 q) (y := .int .i64 sl) hk5
            obtain ⟨d2, d3⟩ := hl5.cell hq9
            have H5 := Lib.hid (And.intro hg5 (And.intro hu5 (And.intro hl5 (And.intro hr5 hb5))))
            clear x1 x2 x3 x4 x5 tg1 tg2 tg3 hm5 hu5 hl5 hk5 hr5 hg5 hb5
            go_wp2
            have h6 : W2 w f i sl xb kb sb S lv A tag ra ub (ub + 1) (k + 1) (w5.setCell ⟨ub + 1, q, none⟩ (.int .i64 (k + 1))) := by
              obtain ⟨x1, x2, x3, x4, x5⟩ := H5.out
              obtain ⟨tg1, tg2, tg3⟩ := HTags.out
              have hm6 : Mod (fun j => j = ub + 1) w5 (w5.setCell ⟨ub + 1, q, none⟩ (.int .i64 (k + 1))) := Mod.setCell (F := fun j => j = ub + 1) (Mod.refl _ _) ⟨ub + 1, q, none⟩ (.inl rfl) _
              refine ⟨x1.keep0 (hm6.mono fun j _ e => by rw [e]; exact tg2), x2.mod hm6 (by omega), ?_, row_mod x4 hm6 (fun b o e z => by
                have h1 := (tg3 b o e hi0).1
                have h2 := HU.out.2
                omega), Mod.below x5 hm6 x5.size fun j _ e => by have := HU.out.1; omega⟩
              have h := Arr.set x3 hq9 ((k : Int) + 1)
              refine h.congr fun t _ => ?_
              rw [la_succ hi0, HQ.out]
              by_cases e : t = q
              · rw [if_pos e, if_pos e]; omega
              · rw [if_neg e, if_neg e]
            have H6 := Lib.hid h6
            clear h6 c0 d2 d3 hu12 q3 q4 q5 q1
            generalize w5.setCell ⟨ub + 1, q, none⟩ (.int .i64 (k + 1)) = w6 at *
            have HR3 : Hid (w3Rel w6 i (.int .i64 1) w6) := Lib.hid ⟨1, by omega, by omega, rfl, Below.refl _ _⟩
            have HKt := Lib.hid hkT
            have HHi := Lib.hid hi0
            clear hq1 hqm hq9 hkT hi0
            go_loopw [18, 19] (fun va _ wr => w3Rel w6 i va wr) (fun va _ _ => i + 1 - (intOf va).toNat)
            case atStart => exact HR3.out
            case round =>
              clear HR3
              obtain ⟨aa, ha1, ha2, rfl, hb⟩ := hrel
              have HBa := Lib.hid hb
              have HI8 := HI.out
              clear hb
              by_cases hai : aa ≤ i
              · have r1 : (aa : Int) ≤ i := by omega
                have r2 : (aa : Int) < 9 := by omega
                have h6 := H6.out.below HBa.out
                obtain ⟨l, hl, hlk⟩ := la_nat i (wtF f) (sl := sl) (k := k + 1) aa
                obtain ⟨d2, _⟩ := h6.l.cell (i := aa) (by omega)
                have hwt := waits (m := i) (wt := wtF f) HSb.out.1 (fun j _ => wt_bd f j) (k + 1) ha1 hai
                rw [hl] at d2 hwt
                obtain ⟨M, hM⟩ : ∃ M : Nat, i * (16 * sl + 1) = M := ⟨_, rfl⟩
                have hMb : M ≤ 8 * 193 := by rw [← hM]; exact Nat.mul_le_mul HI8 (by have := HSb.out.2; omega)
                have hMi : (i : Int) * (16 * sl + 1) = (M : Int) := by rw [← hM]; push_cast; rfl
                rw [hMi] at hwt
                have hk7 : k ≤ 700 := by have := HKt.out; omega
                have hsb := HSb.out
                clear h6 hM hl
                go_wp2
                have HR4 : Hid (w3Rel w6 i (.int .i64 1) wr) := Lib.hid ⟨1, by omega, by omega, rfl, HBa.out⟩
                clear d2 hwt hMi hMb hlk hk7 hsb r1
                obtain ⟨wo, rfl⟩ : ∃ wo : World, wo = wr := ⟨_, rfl⟩
                go_loopw [19] (fun vb wr => w3Rel w6 i vb wr) (fun vb _ => i + 1 - (intOf vb).toNat)
                case atStart => exact HR4.out
                case round =>
                  clear HR4
                  obtain ⟨bb, hb1, hb2, rfl, hb⟩ := hrel
                  have HBb := Lib.hid hb
                  clear hb
                  by_cases hbi : bb ≤ i
                  · have r1 : (bb : Int) ≤ i := by omega
                    have r3 : (bb : Int) < 9 := by omega
                    have h6 := H6.out.below HBb.out
                    obtain ⟨u, hu, hu12⟩ := us_nat i (wtF f) (k := k + 1) HSb.out.2 (by have := HKt.out; omega) aa
                    obtain ⟨v, hv, hv12⟩ := us_nat i (wtF f) (k := k + 1) HSb.out.2 (by have := HKt.out; omega) bb
                    obtain ⟨d1, _⟩ := h6.u.cell (i := aa) (by omega)
                    obtain ⟨d2, _⟩ := h6.u.cell (i := bb) (by omega)
                    have hfair := fair (m := i) (wt := wtF f) HSb.out.1 (fun j _ => wt_bd f j) (k + 1) ha1 hai hb1 hbi
                    rw [hu] at d1 hfair
                    rw [hv] at d2 hfair
                    obtain ⟨rb, ro, hra, _, hrc⟩ := h6.r (by omega)
                    subst hra
                    have d3 := hrc (aa - 1) (by omega)
                    have d4 := hrc (bb - 1) (by omega)
                    have wb1 := (wt_bd f (aa - 1)).2
                    have wb2 := (wt_bd f (bb - 1)).2
                    obtain ⟨a1, ha1e⟩ : ∃ a1 : Nat, aa - 1 = a1 := ⟨_, rfl⟩
                    obtain ⟨b1, hb1e⟩ : ∃ b1 : Nat, bb - 1 = b1 := ⟨_, rfl⟩
                    rw [ha1e] at d3 hfair wb1
                    rw [hb1e] at d4 hfair wb2
                    have e1 : IntKind.i64.wrap ((aa : Int) - 1) = (a1 : Int) := by rw [show (aa : Int) - 1 = (a1 : Int) by omega]; exact IntWalk.i64_in _ (by omega)
                    have e2 : IntKind.i64.wrap ((bb : Int) - 1) = (b1 : Int) := by rw [show (bb : Int) - 1 = (b1 : Int) by omega]; exact IntWalk.i64_in _ (by omega)
                    have e3 : (a1 : Int) < i := by omega
                    have e4 : (b1 : Int) < i := by omega
                    simp only at d3 d4
                    generalize wtF f a1 = x at *
                    generalize wtF f b1 = y at *
                    obtain ⟨p1, p2, p3, p4, p5, p6⟩ := prods (u := u) (v := v) (x := x) (y := y) (sl := sl) hu12 hv12 wb1 wb2 HSb.out.2
                    have hgt : ¬ (u : Int) * y - (v : Int) * x > 2 * (sl : Int) * x * y := by omega
                    clear h6 hu hv hrc ha1e hb1e hu12 hv12 wb1 wb2 hfair
                    go_wp2
                    refine B (fun V => V.cell? ⟨ub, aa, none⟩ = some (.int .i64 u) ∧ V.cell? ⟨ub, bb, none⟩ = some (.int .i64 v) ∧ V.cell? ⟨rb, ro + a1, none⟩ = some (.int .i64 x) ∧ V.cell? ⟨rb, ro + b1, none⟩ = some (.int .i64 y)) ⟨d1, d2, d3, d4⟩ fun wd hwd hS => ?_
                    have HWd2 := Lib.hid hwd
                    clear hwd d1 d2 d3 d4
                    refine T 0 hS ?_
                    refine T 1 hS ?_
                    refine T 2 hS ?_
                    refine T 3 hS ?_
                    refine T 4 hS ?_
                    refine T 5 hS ?_
                    refine T 6 hS ?_
                    refine T 7 hS ?_
                    refine T 8 hS ?_
                    refine T 9 hS ?_
                    refine T 10 hS ?_
                    refine T 11 hS ?_
                    refine T 12 hS ?_
                    refine T 13 hS ?_
                    refine T 14 hS ?_
                    refine T 15 hS ?_
                    refine T 16 hS ?_
                    refine T 17 hS ?_
                    refine T 18 hS ?_
                    refine T 19 hS ?_
                    refine T 20 hS ?_
                    refine T 21 hS ?_
                    refine T 22 hS ?_
                    refine T 23 hS ?_
                    refine T 24 hS ?_
                    refine T 25 hS ?_
                    refine T 26 hS ?_
                    refine T 27 hS ?_
                    refine T 28 hS ?_
                    refine T 29 hS ?_
                    refine T 30 hS ?_
                    refine T 31 hS ?_
                    refine T 32 hS ?_
                    refine T 33 hS ?_
                    refine wpAnyH_done (by kernel_rfl) ?_ _
                    clear hS p1 p2 p3 p4 p5 p6 e1 e2 e3 e4
                    go_wp2
                    exact ⟨⟨bb + 1, by omega, by omega, by go_num, by rw [HWd2.out]; exact HBb.out.drew⟩, by simp [intOf]; omega⟩
                  · obtain rfl : bb = i + 1 := by omega
                    have r1 : ¬ ((i + 1 : Nat) : Int) ≤ i := by omega
                    have r4 : ¬ (i : Int) + 1 ≤ i := by omega
                    go_wp2
                    exact ⟨⟨aa + 1, by omega, by omega, by go_num, HBb.out⟩, by simp [intOf]; omega⟩
              · obtain rfl : aa = i + 1 := by omega
                have r1 : ¬ ((i + 1 : Nat) : Int) ≤ i := by omega
                have r4 : ¬ (i : Int) + 1 ≤ i := by omega
                have hk7 := HKt.out
                go_wp2
                exact ⟨⟨k + 1, by omega, by go_num, H6.out.below HBa.out⟩, by simp [intOf]; omega⟩
          · have hend : ¬ (k : Int) + 1 ≤ tu % 700 ∨ ¬ (0 : Int) < i := by
              rcases Nat.lt_or_ge k TT with z | z
              · exact .inr (by have : ¬ 0 < i := fun y => hgo ⟨z, y⟩; omega)
              · exact .inl (by rw [HT.out]; omega)
            have HBE := Lib.hid H2.out.b
            clear hgo
            rcases hend with z | z
            · go_wp2_with fail
              refine (Sh.alive37 _).mono ?_
              rintro e w9 ⟨rfl, hb9⟩
              have HB9 := Lib.hid (below_th HBE.out hb9)
              clear hb9
              go_wp2
              go_ret
              exact ⟨rfl, HB9.out⟩
            · by_cases z2 : (k : Int) + 1 ≤ tu % 700
              all_goals go_wp2_with fail
              all_goals
                refine (Sh.alive37 _).mono ?_
                rintro e w9 ⟨rfl, hb9⟩
                have HB9 := Lib.hid (below_th HBE.out hb9)
                clear hb9
                go_wp2
                go_ret
                exact ⟨rfl, HB9.out⟩
end Fr
end Go.Proofs.YthgddpgifdhnjaaGreat
