/- The walk of aediculelaw06.CpuSteps. -/
import Derived.Test.YtldmglodjafklaaGreatTwin
import Derived.Test.YtldmglodjafklaaGreatRunsB
import Derived.Laws.StructEq
namespace Go.Proofs.YtldmglodjafklaaGreat
open Go.RowKit Word
set_option linter.unusedVariables false
set_option linter.unusedSimpArgs false
namespace Cp
set_option maxRecDepth 100000 in
set_option maxHeartbeats 8000000 in
theorem cpuSteps (w : World) (x : St) (hp : x.pre w) (n : Int) (n0 : 0 ≤ n) (n1 : n ≤ 65535) (o : Int) (o0 : 0 ≤ o) (o1 : o ≤ 65535) :
    Calls Tryz.prog 5 #[.agg x.cells, .int .u16 n, .int .u16 o] w fun e w' => e = .returned (.bool true) ∧ Below w.heap.size w w' := by
  have hb : Below w.heap.size w (w.alloc (.cells x.cells 55)) := (Below.refl _ _).alloc (Nat.le_refl _) _
  have hbx : StBox (w.alloc (.cells x.cells 55)) w.heap.size x := ⟨heap_alloc_new w _⟩
  have HHv := Lib.hid (heavy06 (w.alloc (.cells x.cells 55)) x)
  have hmade : heavyV x = false → ∀ w1, Below (w.alloc (.cells x.cells 55)).heap.size (w.alloc (.cells x.cells 55)) w1 → Calls Tryz.prog 27 #[.agg x.cells] w1 (MadePost w1 x) := fun hh w1 hb1 => made w1 x (hp.toOk (below_th hb hb1) hh)
  have HMd := Lib.hid hmade
  have HB := Lib.hid hb
  have HBx := Lib.hid hbx
  obtain ⟨b0, b1, b2, b3, b4, b5, b6⟩ := hbx.cells
  clear hmade hb hbx hp
  unfold St.cells at *
  obtain ⟨m, rfl⟩ := Int.eq_ofNat_of_zero_le n0
  obtain ⟨a, hq⟩ : ∃ q : Nat, m % 500 = q := ⟨_, rfl⟩
  have ha5 : a < 500 := by omega
  have hqt : (m : Int).tmod 500 = a := by rw [Int.tmod_eq_emod_of_nonneg (by omega)]; omega
  have hqe : (m : Int) % 500 = a := by omega
  obtain ⟨m', rfl⟩ := Int.eq_ofNat_of_zero_le o0
  obtain ⟨b, hq'⟩ : ∃ q : Nat, m' % 500 = q := ⟨_, rfl⟩
  have hb5 : b < 500 := by omega
  have hqt' : (m' : Int).tmod 500 = b := by rw [Int.tmod_eq_emod_of_nonneg (by omega)]; omega
  have hqe' : (m' : Int) % 500 = b := by omega
  clear hq hq'
  cases hh : heavyV x with
  | true =>
    have HH := Lib.hid hh
    clear hh
    go_enter Tryz.func5, Tryz.ntmps5
    go_wp2_with fail
    refine HHv.out.mono ?_
    rintro e w1 ⟨rfl, hb1⟩
    rw [HH.out]
    have HB1 := Lib.hid (below_th HB.out hb1)
    clear hb1
    go_wp2_with fail
    refine (alive06 _).mono ?_
    rintro e w2 ⟨rfl, hb2⟩
    have HB2 := Lib.hid (below_th HB1.out hb2)
    clear hb2
    go_wp2
    go_ret
    exact ⟨rfl, HB2.out⟩
  | false =>
    have HH := Lib.hid hh
    clear hh
    go_enter Tryz.func5, Tryz.ntmps5
    go_wp2_with fail
    refine HHv.out.mono ?_
    rintro e w1 ⟨rfl, hb1⟩
    rw [HH.out]
    have hbx1 := HBx.out.below hb1 (by simp)
    obtain ⟨b0, b1, b2, b3, b4, b5, b6⟩ := hbx1.cells
    have HM1 := Lib.hid (HMd.out HH.out w1 hb1)
    have HB1 := Lib.hid (below_th HB.out hb1)
    clear hb1 hbx1 HBx
    go_wp2_with fail
    refine HM1.out.mono ?_
    rintro e w2 ⟨cb, sb, mb, A, db, rb, lv, R, rfl, hd, he, _⟩
    have HD := Lib.hid (hd.weaken HB1.out)
    have HE := Lib.hid he
    clear hd he b0 b1 b2 b3 b4 b5 b6 HM1 HMd HHv
    go_wp2_with fail
    refine (copy HD.out.cp).mono ?_
    rintro e w3 ⟨rfl, hc3, hb3⟩
    have HD3 := Lib.hid (HD.out.below hb3)
    have HC3 := Lib.hid hc3
    have HB3 := Lib.hid hb3
    clear hc3 hb3
    go_wp2_with fail
    refine (Sp.copy HD3.out.pair.sp).mono ?_
    rintro e w4 ⟨so, mo, C, rfl, hs4, hcc, hf4, hb4⟩
    have HT := Lib.hid (HD.out.twin HC3.out HB3.out hs4 hf4 hb4)
    have HCC := Lib.hid hcc
    clear hs4 hcc hf4 hb4 HC3 HB3 HD3 HD
    obtain ⟨eb, heb⟩ : ∃ e, w2.heap.size = e := ⟨_, rfl⟩
    rw [heb] at HT ⊢
    clear heb
    generalize x.regs = r at *
    generalize x.pc = pc at *
    by_cases h0 : (run A r pc a).1.kind = 0
    · obtain ⟨r1, pc1, A1, k, u, y, r2, pc2, A2, A3, A4, c, e1, e2, e3, e4, hc2, hc3, hcb, hkf, hkd⟩ := steps_one HCC.out HE.out r pc a b h0
      clear h0
      have E1 := Lib.hid e1
      have E2 := Lib.hid e2
      have E3 := Lib.hid e3
      have E4 := Lib.hid e4
      have H2 := Lib.hid hc2
      have H3 := Lib.hid hc3
      clear e1 e2 e3 e4 hc2 hc3
      by_cases hk : k = 0
      · subst hk
        obtain rfl := (hkf rfl).symm
        clear hkd hkf
        have HR5 := Lib.hid (run_at HT.out.one.cp HT.out.one.pair.sp HT.out.one.ca a (by omega) E1.out)
        go_wp2_with fail
        refine HR5.out.mono ?_
        rintro e w5 ⟨rfl, hc5, hs5, hk5, hm5⟩
        have HT5 := Lib.hid (HT.out.runC hc5 hs5 hk5 hm5)
        clear hc5 hs5 hk5 hm5 HR5
        have hbb : Below w5.heap.size w5 (w5.alloc (.cells #[.int .u8 0, .int .u32 0, .int .i64 0] 29)) := (Below.refl _ _).alloc (Nat.le_refl _) _
        have HTa := Lib.hid (HT5.out.below hbb)
        have HL5 : Hid (¬ Twin.foot cb sb mb A1 eb so mo C db rb lv R w5.heap.size) := Lib.hid fun g => absurd (HT5.out.lt _ g) (Nat.lt_irrefl _)
        have HZ5 := Lib.hid HT5.out.one.bel.size
        have hxn : StpBox (w5.alloc (.cells #[.int .u8 0, .int .u32 0, .int .i64 0] 29)) w5.heap.size 0 0 0 := ⟨heap_alloc_new w5 _⟩
        have HXa := Lib.hid hxn
        have HR6 := Lib.hid (run_at HTa.out.one.cp HTa.out.one.pair.sp HTa.out.one.ca b (by omega) E2.out)
        clear hbb hxn HT5
        go_wp2_with fail
        refine HR6.out.mono ?_
        rintro e w6 ⟨rfl, hc6, hs6, hk6, hm6⟩
        have hx6 := HXa.out.mod hm6 (fun g => HL5.out (.inl (g.imp id fun g => .inr (.inr g))))
        have HTb := Lib.hid (HTa.out.runC hc6 hs6 hk6 hm6)
        have HL6 : Hid (¬ Twin.foot cb sb mb A2 eb so mo C db rb lv R w5.heap.size) := Lib.hid fun g => HL5.out (g.imp (fun g => g.imp id fun g => (foot_iff hk6).1 g) id)
        have hba : Below w6.heap.size w6 (w6.alloc (.cells #[.int .u8 0, .int .u32 u, .int .i64 y] 29)) := (Below.refl _ _).alloc (Nat.le_refl _) _
        obtain ⟨t0, t1, t2, f0, f1, f2⟩ := (hx6.below hba).cells
        have HX6 := Lib.hid ((hx6.below hba).set 0 u y)
        have HT6 := Lib.hid ((HTb.out.below hba).set HL6.out HZ5.out 0 u y)
        clear hc6 hs6 hk6 hm6 hx6 hba HR6 HTa HXa HTb HL5 HZ5
        have hr7 := run_at HT6.out.two.cp HT6.out.two.pair.sp HT6.out.two.ca (a + b) (by omega) E3.out
        try simp only [Int.natCast_add] at hr7
        have HR7 := Lib.hid hr7
        clear hr7
        go_wp2_with fail
        refine HR7.out.mono ?_
        rintro e w7 ⟨rfl, hc7, hs7, hk7, hm7⟩
        have HX7 := Lib.hid (HX6.out.mod hm7 (fun g => HL6.out (.inr (.inl (g.imp id fun g => .inr (.inr g))))))
        have HT7 := Lib.hid (HT6.out.runE hc7 hs7 hk7 hm7)
        clear hc7 hs7 hk7 hm7 HR7 HT6 HX6
        have hbb : Below w7.heap.size w7 (w7.alloc (.cells #[.int .u8 0, .int .u32 u, .int .i64 y] 29)) := (Below.refl _ _).alloc (Nat.le_refl _) _
        have HTb := Lib.hid (HT7.out.below hbb)
        have HXb := Lib.hid (HX7.out.below hbb)
        have hxn : StpBox (w7.alloc (.cells #[.int .u8 0, .int .u32 u, .int .i64 y] 29)) w7.heap.size 0 u y := ⟨heap_alloc_new w7 _⟩
        have HXn := Lib.hid hxn
        have HLn : Hid (¬ (w7.heap.size = db ∨ Rsp.foot rb lv R w7.heap.size)) := Lib.hid fun g => absurd (HT7.out.lt _ (.inr (.inr g))) (Nat.lt_irrefl _)
        have hr8 := runD_at HTb.out.two.dp HTb.out.two.pair.rp HTb.out.two.dr (a + b) (by omega) E4.out
        try simp only [Int.natCast_add] at hr8
        have HR8 := Lib.hid hr8
        clear hr8 hbb hxn
        go_wp2_with fail
        refine HR8.out.mono ?_
        rintro e w8 ⟨R8, rfl, hc8, hq8, hs8, hm8, hf8⟩
        have hx8 := HXb.out.mod hm8 (fun g => HL6.out (.inr (.inr g)))
        have hy8 := HXn.out.mod hm8 HLn.out
        have hbz : Below w8.heap.size w8 (w8.alloc (.cells #[.int .u8 0, .int .u32 u, .int .i64 y] 29)) := (Below.refl _ _).alloc (Nat.le_refl _) _
        obtain ⟨u0, u1, u2, _, _, _⟩ := hx8.cells
        obtain ⟨v0, v1, v2, _, _, _⟩ := hy8.cells
        obtain ⟨u3, u4, u5, _, _, _⟩ := (hx8.below hbz).cells
        obtain ⟨v3, v4, v5, _, _, _⟩ := (hy8.below hbz).cells
        rw [← hq8] at H2 H3
        have HTd := Lib.hid (HTb.out.runD hc8 hs8 hm8 hf8)
        have HT8 : Hid (Twin w (w8.alloc (.cells #[.int .u8 0, .int .u32 u, .int .i64 y] 29)) cb sb mb A2 r2 pc2 eb so mo A3 r2 pc2 db rb lv R8 r2 pc2) := Lib.hid (HTd.out.below ((Below.refl _ _).alloc (Nat.le_refl _) _))
        clear hbz hc8 hq8 hs8 hm8 hf8 hx8 hy8 HR8 HTb HXb HXn HTd HT7 HX7
        go_wp2_with fail
        refine (same06 HT8.out.one.cp HT8.out.one.dp).mono ?_
        rintro e w9 ⟨rfl, hb9⟩
        have HT9 := Lib.hid (HT8.out.below hb9)
        clear hb9 u0 u1 u2 v0 v1 v2 u3 u4 u5 v3 v4 v5
        go_wp2_with fail
        refine (same06 HT9.out.two.cp HT9.out.two.dp).mono ?_
        rintro e w10 ⟨rfl, hb10⟩
        have HT10 := Lib.hid (HT9.out.below hb10)
        clear hb10
        go_wp2_with fail
        refine (Sp.same HT10.out.one.pair H2.out).mono ?_
        rintro e w11 ⟨rfl, hb11⟩
        have HT11 := Lib.hid (HT10.out.below hb11)
        clear hb11
        go_wp2_with fail
        refine (Sp.same HT11.out.two.pair H3.out).mono ?_
        rintro e w12 ⟨rfl, hb12⟩
        have HT12 := Lib.hid (HT11.out.below hb12)
        clear hb12
        go_wp2_with fail
        refine (alive06 _).mono ?_
        rintro e w13 ⟨rfl, hb13⟩
        have HT13 := Lib.hid (HT12.out.below hb13)
        clear hb13
        go_wp2
        go_ret
        exact ⟨rfl, HT13.out.one.bel⟩
      · have hkb : (k == 0) = false := beq_eq_false_iff_ne.2 hk
        clear hkd hkf
        have HK := Lib.hid hk
        clear hk
        have hnl : ¬ b < c := by omega
        have HR5 := Lib.hid (run_at HT.out.one.cp HT.out.one.pair.sp HT.out.one.ca a (by omega) E1.out)
        go_wp2_with fail
        refine HR5.out.mono ?_
        rintro e w5 ⟨rfl, hc5, hs5, hk5, hm5⟩
        have HT5 := Lib.hid (HT.out.runC hc5 hs5 hk5 hm5)
        clear hc5 hs5 hk5 hm5 HR5
        have hbb : Below w5.heap.size w5 (w5.alloc (.cells #[.int .u8 0, .int .u32 0, .int .i64 0] 29)) := (Below.refl _ _).alloc (Nat.le_refl _) _
        have HTa := Lib.hid (HT5.out.below hbb)
        have HL5 : Hid (¬ Twin.foot cb sb mb A1 eb so mo C db rb lv R w5.heap.size) := Lib.hid fun g => absurd (HT5.out.lt _ g) (Nat.lt_irrefl _)
        have HZ5 := Lib.hid HT5.out.one.bel.size
        have hxn : StpBox (w5.alloc (.cells #[.int .u8 0, .int .u32 0, .int .i64 0] 29)) w5.heap.size 0 0 0 := ⟨heap_alloc_new w5 _⟩
        have HXa := Lib.hid hxn
        have HR6 := Lib.hid (run_at HTa.out.one.cp HTa.out.one.pair.sp HTa.out.one.ca b (by omega) E2.out)
        clear hbb hxn HT5
        go_wp2_with fail
        refine HR6.out.mono ?_
        rintro e w6 ⟨rfl, hc6, hs6, hk6, hm6⟩
        have hx6 := HXa.out.mod hm6 (fun g => HL5.out (.inl (g.imp id fun g => .inr (.inr g))))
        have HTb := Lib.hid (HTa.out.runC hc6 hs6 hk6 hm6)
        have HL6 : Hid (¬ Twin.foot cb sb mb A2 eb so mo C db rb lv R w5.heap.size) := Lib.hid fun g => HL5.out (g.imp (fun g => g.imp id fun g => (foot_iff hk6).1 g) id)
        have hba : Below w6.heap.size w6 (w6.alloc (.cells #[.int .u8 k, .int .u32 u, .int .i64 y] 29)) := (Below.refl _ _).alloc (Nat.le_refl _) _
        obtain ⟨t0, t1, t2, f0, f1, f2⟩ := (hx6.below hba).cells
        have HX6 := Lib.hid ((hx6.below hba).set k u y)
        have HT6 := Lib.hid ((HTb.out.below hba).set HL6.out HZ5.out k u y)
        clear hc6 hs6 hk6 hm6 hx6 hba HR6 HTa HXa HTb HL5 HZ5
        have hr7 := run_at HT6.out.two.cp HT6.out.two.pair.sp HT6.out.two.ca (a + b) (by omega) E3.out
        try simp only [Int.natCast_add] at hr7
        have HR7 := Lib.hid hr7
        clear hr7
        go_wp2_with fail
        refine HR7.out.mono ?_
        rintro e w7 ⟨rfl, hc7, hs7, hk7, hm7⟩
        have HX7 := Lib.hid (HX6.out.mod hm7 (fun g => HL6.out (.inr (.inl (g.imp id fun g => .inr (.inr g))))))
        have HT7 := Lib.hid (HT6.out.runE hc7 hs7 hk7 hm7)
        clear hc7 hs7 hk7 hm7 HR7 HT6 HX6
        have hbb : Below w7.heap.size w7 (w7.alloc (.cells #[.int .u8 k, .int .u32 u, .int .i64 y] 29)) := (Below.refl _ _).alloc (Nat.le_refl _) _
        have HTb := Lib.hid (HT7.out.below hbb)
        have HXb := Lib.hid (HX7.out.below hbb)
        have hxn : StpBox (w7.alloc (.cells #[.int .u8 k, .int .u32 u, .int .i64 y] 29)) w7.heap.size k u y := ⟨heap_alloc_new w7 _⟩
        have HXn := Lib.hid hxn
        have HLn : Hid (¬ (w7.heap.size = db ∨ Rsp.foot rb lv R w7.heap.size)) := Lib.hid fun g => absurd (HT7.out.lt _ (.inr (.inr g))) (Nat.lt_irrefl _)
        have hr8 := runD_at HTb.out.two.dp HTb.out.two.pair.rp HTb.out.two.dr (a + b) (by omega) E4.out
        try simp only [Int.natCast_add] at hr8
        have HR8 := Lib.hid hr8
        clear hr8 hbb hxn
        go_wp2_with fail
        refine HR8.out.mono ?_
        rintro e w8 ⟨R8, rfl, hc8, hq8, hs8, hm8, hf8⟩
        have hx8 := HXb.out.mod hm8 (fun g => HL6.out (.inr (.inr g)))
        have hy8 := HXn.out.mod hm8 HLn.out
        have hbz : Below w8.heap.size w8 (w8.alloc (.cells #[.int .u8 k, .int .u32 u, .int .i64 y] 29)) := (Below.refl _ _).alloc (Nat.le_refl _) _
        obtain ⟨u0, u1, u2, _, _, _⟩ := hx8.cells
        obtain ⟨v0, v1, v2, _, _, _⟩ := hy8.cells
        obtain ⟨u3, u4, u5, _, _, _⟩ := (hx8.below hbz).cells
        obtain ⟨v3, v4, v5, _, _, _⟩ := (hy8.below hbz).cells
        rw [← hq8] at H2 H3
        have HTd := Lib.hid (HTb.out.runD hc8 hs8 hm8 hf8)
        have HT8 : Hid (Twin w (w8.alloc (.cells #[.int .u8 k, .int .u32 u, .int .i64 y] 29)) cb sb mb A2 r2 pc2 eb so mo A3 r2 pc2 db rb lv R8 r2 pc2) := Lib.hid (HTd.out.below ((Below.refl _ _).alloc (Nat.le_refl _) _))
        clear hbz hc8 hq8 hs8 hm8 hf8 hx8 hy8 HR8 HTb HXb HXn HTd HT7 HX7
        go_wp2_with fail
        refine (same06 HT8.out.one.cp HT8.out.one.dp).mono ?_
        rintro e w9 ⟨rfl, hb9⟩
        have HT9 := Lib.hid (HT8.out.below hb9)
        clear hb9 u0 u1 u2 v0 v1 v2 u3 u4 u5 v3 v4 v5
        go_wp2_with fail
        refine (same06 HT9.out.two.cp HT9.out.two.dp).mono ?_
        rintro e w10 ⟨rfl, hb10⟩
        have HT10 := Lib.hid (HT9.out.below hb10)
        clear hb10
        go_wp2_with fail
        refine (Sp.same HT10.out.one.pair H2.out).mono ?_
        rintro e w11 ⟨rfl, hb11⟩
        have HT11 := Lib.hid (HT10.out.below hb11)
        clear hb11
        go_wp2_with fail
        refine (Sp.same HT11.out.two.pair H3.out).mono ?_
        rintro e w12 ⟨rfl, hb12⟩
        have HT12 := Lib.hid (HT11.out.below hb12)
        clear hb12
        go_wp2_with fail
        refine (alive06 _).mono ?_
        rintro e w13 ⟨rfl, hb13⟩
        have HT13 := Lib.hid (HT12.out.below hb13)
        clear hb13
        go_wp2
        go_ret
        exact ⟨rfl, HT13.out.one.bel⟩
    · obtain ⟨k, u, y, r2, pc2, A2, A3, A4, c, e1, e3, e4, hc2, hc3, hcb, hkd⟩ := steps_two HCC.out HE.out r pc a h0
      clear h0
      have hkb : (k == 0) = false := beq_eq_false_iff_ne.2 (by omega)
      have E1 := Lib.hid e1
      have E3 := Lib.hid e3
      have E4 := Lib.hid e4
      have H2 := Lib.hid hc2
      have H3 := Lib.hid hc3
      clear e1 e3 e4 hc2 hc3 hkd
      have hnl : ¬ a < c := by omega
      have HR5 := Lib.hid (run_at HT.out.one.cp HT.out.one.pair.sp HT.out.one.ca a (by omega) E1.out)
      go_wp2_with fail
      refine HR5.out.mono ?_
      rintro e w5 ⟨rfl, hc5, hs5, hk5, hm5⟩
      have HT5 := Lib.hid (HT.out.runC hc5 hs5 hk5 hm5)
      clear hc5 hs5 hk5 hm5 HR5
      have hbb : Below w5.heap.size w5 (w5.alloc (.cells #[.int .u8 k, .int .u32 u, .int .i64 y] 29)) := (Below.refl _ _).alloc (Nat.le_refl _) _
      have HT6 := Lib.hid (HT5.out.below hbb)
      have HL6 : Hid (¬ Twin.foot cb sb mb A2 eb so mo C db rb lv R w5.heap.size) := Lib.hid fun g => absurd (HT5.out.lt _ g) (Nat.lt_irrefl _)
      have HX6 : Hid (StpBox (w5.alloc (.cells #[.int .u8 k, .int .u32 u, .int .i64 y] 29)) w5.heap.size k u y) := Lib.hid ⟨heap_alloc_new w5 _⟩
      clear hbb HT5
      have hr7 := run_at HT6.out.two.cp HT6.out.two.pair.sp HT6.out.two.ca (a) (by omega) E3.out
      try simp only [Int.natCast_add] at hr7
      have HR7 := Lib.hid hr7
      clear hr7
      go_wp2_with fail
      refine HR7.out.mono ?_
      rintro e w7 ⟨rfl, hc7, hs7, hk7, hm7⟩
      have HX7 := Lib.hid (HX6.out.mod hm7 (fun g => HL6.out (.inr (.inl (g.imp id fun g => .inr (.inr g))))))
      have HT7 := Lib.hid (HT6.out.runE hc7 hs7 hk7 hm7)
      clear hc7 hs7 hk7 hm7 HR7 HT6 HX6
      have hbb : Below w7.heap.size w7 (w7.alloc (.cells #[.int .u8 k, .int .u32 u, .int .i64 y] 29)) := (Below.refl _ _).alloc (Nat.le_refl _) _
      have HTb := Lib.hid (HT7.out.below hbb)
      have HXb := Lib.hid (HX7.out.below hbb)
      have hxn : StpBox (w7.alloc (.cells #[.int .u8 k, .int .u32 u, .int .i64 y] 29)) w7.heap.size k u y := ⟨heap_alloc_new w7 _⟩
      have HXn := Lib.hid hxn
      have HLn : Hid (¬ (w7.heap.size = db ∨ Rsp.foot rb lv R w7.heap.size)) := Lib.hid fun g => absurd (HT7.out.lt _ (.inr (.inr g))) (Nat.lt_irrefl _)
      have hr8 := runD_at HTb.out.two.dp HTb.out.two.pair.rp HTb.out.two.dr (a) (by omega) E4.out
      try simp only [Int.natCast_add] at hr8
      have HR8 := Lib.hid hr8
      clear hr8 hbb hxn
      go_wp2_with fail
      refine HR8.out.mono ?_
      rintro e w8 ⟨R8, rfl, hc8, hq8, hs8, hm8, hf8⟩
      have hx8 := HXb.out.mod hm8 (fun g => HL6.out (.inr (.inr g)))
      have hy8 := HXn.out.mod hm8 HLn.out
      have hbz : Below w8.heap.size w8 (w8.alloc (.cells #[.int .u8 k, .int .u32 u, .int .i64 y] 29)) := (Below.refl _ _).alloc (Nat.le_refl _) _
      obtain ⟨u0, u1, u2, _, _, _⟩ := hx8.cells
      obtain ⟨v0, v1, v2, _, _, _⟩ := hy8.cells
      obtain ⟨u3, u4, u5, _, _, _⟩ := (hx8.below hbz).cells
      obtain ⟨v3, v4, v5, _, _, _⟩ := (hy8.below hbz).cells
      rw [← hq8] at H2 H3
      have HTd := Lib.hid (HTb.out.runD hc8 hs8 hm8 hf8)
      have HT8 : Hid (Twin w (w8.alloc (.cells #[.int .u8 k, .int .u32 u, .int .i64 y] 29)) cb sb mb A2 r2 pc2 eb so mo A3 r2 pc2 db rb lv R8 r2 pc2) := Lib.hid (HTd.out.below ((Below.refl _ _).alloc (Nat.le_refl _) _))
      clear hbz hc8 hq8 hs8 hm8 hf8 hx8 hy8 HR8 HTb HXb HXn HTd HT7 HX7
      go_wp2_with fail
      refine (same06 HT8.out.one.cp HT8.out.one.dp).mono ?_
      rintro e w9 ⟨rfl, hb9⟩
      have HT9 := Lib.hid (HT8.out.below hb9)
      clear hb9 u0 u1 u2 v0 v1 v2 u3 u4 u5 v3 v4 v5
      go_wp2_with fail
      refine (same06 HT9.out.two.cp HT9.out.two.dp).mono ?_
      rintro e w10 ⟨rfl, hb10⟩
      have HT10 := Lib.hid (HT9.out.below hb10)
      clear hb10
      go_wp2_with fail
      refine (Sp.same HT10.out.one.pair H2.out).mono ?_
      rintro e w11 ⟨rfl, hb11⟩
      have HT11 := Lib.hid (HT10.out.below hb11)
      clear hb11
      go_wp2_with fail
      refine (Sp.same HT11.out.two.pair H3.out).mono ?_
      rintro e w12 ⟨rfl, hb12⟩
      have HT12 := Lib.hid (HT11.out.below hb12)
      clear hb12
      go_wp2_with fail
      refine (alive06 _).mono ?_
      rintro e w13 ⟨rfl, hb13⟩
      have HT13 := Lib.hid (HT12.out.below hb13)
      clear hb13
      go_wp2
      go_ret
      exact ⟨rfl, HT13.out.one.bel⟩
end Cp
end Go.Proofs.YtldmglodjafklaaGreat
