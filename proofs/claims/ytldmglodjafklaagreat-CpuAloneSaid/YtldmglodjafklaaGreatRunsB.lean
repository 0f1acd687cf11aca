/- The walk of aediculelaw06.CpuRuns. -/
import Derived.Test.YtldmglodjafklaaGreatRuns
import Derived.Laws.StructEq
namespace Go.Proofs.YtldmglodjafklaaGreat
open Go.RowKit Word
set_option linter.unusedVariables false
set_option linter.unusedSimpArgs false
namespace Cp
/-- A state as it comes in: of whatever lengths. -/
structure St.pre (w : World) (x : St) : Prop where
  rrow : RowN .u32 w x.ra x.rn x.rf
  rbd : ∀ i, i < x.rn → 0 ≤ x.rf i ∧ x.rf i ≤ 4294967295
  rlen : x.rn ≤ 9223372036854775807
  p0 : 0 ≤ x.pc
  p1 : x.pc ≤ 4294967295
  prow : RowN .u8 w x.pa x.pn x.pf
  pbd : ∀ i, i < x.pn → 0 ≤ x.pf i ∧ x.pf i ≤ 255
  a0 : 0 ≤ x.at'
  a1 : x.at' ≤ 65535
  crow : Code w x.ca x.cn x.cf
  cbd : ∀ i, i < x.cn → (x.cf i).ok
  w0 : 0 ≤ x.wh
  w1 : x.wh ≤ 65535
theorem RowN.below {k : IntKind} {w w' : World} {a : Option Addr} {n : Nat} {f : Nat → Int} (h : RowN k w a n f) (hb : Below w.heap.size w w') : RowN k w' a n f := fun hn => by
  obtain ⟨b, off, e, hl, hc⟩ := h hn
  exact ⟨b, off, e, Nat.lt_of_lt_of_le hl hb.size, fun i hi => (World.cell?_of_block (w := w) (hb.block b hl)).trans (hc i hi)⟩
theorem St.pre.toOk {w w' : World} {x : St} (h : x.pre w) (hb : Below w.heap.size w w') (hh : heavyV x = false) : x.ok w' := by
  unfold heavyV at hh
  simp only [Bool.or_eq_false_iff, decide_eq_false_iff_not] at hh
  exact ⟨h.rrow.below hb, h.rbd, h.rlen, h.p0, h.p1, h.prow.below hb, h.pbd, by omega, h.a0, h.a1, h.crow.below hb, h.cbd, by omega, h.w0, h.w1, by omega⟩
theorem neStop (k n y : Int) (w : World) : (binOp .neq 29 (.agg #[.int .u8 k, .int .u32 n, .int .i64 y]) (.agg #[.int .u8 k, .int .u32 n, .int .i64 y])).run Tryz.prog w = .ok (.bool false) w := by
  simp [go_sem, Tryz.underlying29]
def crRel (w0 : World) (cb sb mb db rb : Nat) (n : Nat) (vi : Value) (wr : World) : Prop :=
  ∃ (i : Nat) (A : List Pg) (lv : Value) (R : List Rp) (r : List Int) (pc : Int), i ≤ n ∧ vi = .int .i64 i ∧ Duo w0 wr cb sb mb A r pc db rb lv R r pc ∧ cores A = cores (rpgs R)
set_option maxRecDepth 100000 in
set_option maxHeartbeats 4000000 in
theorem cpuRuns (w : World) (x : St) (hp : x.pre w) (n : Int) (n0 : 0 ≤ n) (n1 : n ≤ 255) :
    Calls Tryz.prog 4 #[.agg x.cells, .int .u8 n] w fun e w' => e = .returned (.bool true) ∧ Below w.heap.size w w' := by
  have hb : Below w.heap.size w (w.alloc (.cells x.cells 55)) := (Below.refl _ _).alloc (Nat.le_refl _) _
  have hbx : StBox (w.alloc (.cells x.cells 55)) w.heap.size x := ⟨heap_alloc_new w _⟩
  have HHv := Lib.hid (heavy06 (w.alloc (.cells x.cells 55)) x)
  have hmade : heavyV x = false → ∀ w1, Below (w.alloc (.cells x.cells 55)).heap.size (w.alloc (.cells x.cells 55)) w1 → Calls Tryz.prog 27 #[.agg x.cells] w1 (MadePost w1 x) := fun hh w1 hb1 => made w1 x (hp.toOk (below_th hb hb1) hh)
  have HMd := Lib.hid hmade
  have HB := Lib.hid hb
  have HBx := Lib.hid hbx
  obtain ⟨b0, b1, b2, b3, b4, b5, b6⟩ := hbx.cells
  clear hmade hb hbx hp
  unfold St.cells at *
  obtain ⟨m, rfl⟩ := Int.eq_ofNat_of_zero_le n0
  obtain ⟨q, hq⟩ : ∃ q : Nat, m % 60 = q := ⟨_, rfl⟩
  have hq60 : q < 60 := by omega
  have hqt : (m : Int).tmod 60 = q := by rw [Int.tmod_eq_emod_of_nonneg (by omega)]; omega
  have hqe : (m : Int) % 60 = q := by omega
  cases hh : heavyV x with
  | true =>
    have HH := Lib.hid hh
    clear hh
    go_enter Tryz.func4, Tryz.ntmps4
    go_wp2_with fail
    refine HHv.out.mono ?_
    rintro e w1 ⟨rfl, hb1⟩
    rw [HH.out]
    have HB1 := Lib.hid (below_th HB.out hb1)
    clear hb1
    go_wp2_with fail
    refine (alive06 _).mono ?_
    rintro e w2 ⟨rfl, hb2⟩
    have HB2 := Lib.hid (below_th HB1.out hb2)
    clear hb2
    go_wp2
    go_ret
    exact ⟨rfl, HB2.out⟩
  | false =>
    have HH := Lib.hid hh
    clear hh
    go_enter Tryz.func4, Tryz.ntmps4
    go_wp2_with fail
    refine HHv.out.mono ?_
    rintro e w1 ⟨rfl, hb1⟩
    rw [HH.out]
    have hbx1 := HBx.out.below hb1 (by simp)
    obtain ⟨b0, b1, b2, b3, b4, b5, b6⟩ := hbx1.cells
    have HM1 := Lib.hid (HMd.out HH.out w1 hb1)
    have HB1 := Lib.hid (below_th HB.out hb1)
    clear hb1 hbx1 HBx
    go_wp2_with fail
    refine HM1.out.mono ?_
    rintro e w2 ⟨cb, sb, mb, A, db, rb, lv, R, rfl, hd, he, _⟩
    have HD := Lib.hid (hd.weaken HB1.out)
    have HE := Lib.hid he
    clear hd he b0 b1 b2 b3 b4 b5 b6
    go_wp2
    go_loopw [10] (fun vi wr => crRel w cb sb mb db rb q vi wr) (fun vi _ => q - (intOf vi).toNat)
    case atStart => exact ⟨0, A, lv, R, _, _, Nat.zero_le _, by go_num, HD.out, HE.out⟩
    case round =>
      clear HD HE HM1 HMd HHv
      obtain ⟨i, A2, lv2, R2, r, pc, hi, rfl, hd, he⟩ := hrel
      have HD := Lib.hid hd
      have HE := Lib.hid he
      clear hd he
      by_cases hi2 : i < q
      · have hlk := like_stp HE.out r pc
        have hst := step HD.out.cp HD.out.pair.sp HD.out.ca
        have hbk := blks_stp A2 r pc
        have hkd := stp_kind A2 r pc
        have HF : Hid (∀ w4, Cpu 107 w4 db r pc → Rsp w4 rb lv2 R2 → Calls Tryz.prog 29 #[.pointer (some ⟨db, 0, none⟩), .pointer (some ⟨rb, 0, none⟩)] w4 (SdStPost w4 db rb lv2 R2 (stp (rpgs R2) r pc))) := Lib.hid fun w4 g1 g2 => stepD g1 g2 HD.out.dr
        have hsv : (stp (rpgs R2) r pc).stop = .agg #[.int .u8 (stp A2 r pc).kind, .int .u32 (stp A2 r pc).num, .int .i64 (stp A2 r pc).why] := hlk.stop.symm
        generalize stp A2 r pc = o at *
        generalize stp (rpgs R2) r pc = o2 at *
        have HL := Lib.hid hlk
        have HSt := Lib.hid hst
        have HBk := Lib.hid hbk
        have HSv := Lib.hid hsv
        clear hlk hst hbk hsv
        go_wp2_with fail
        refine HSt.out.mono ?_
        rintro e w4 ⟨rfl, hc4, hs4, hm4⟩
        have hd4 := HD.out.stepC hc4 hs4 HBk.out hm4
        have HD4 := Lib.hid hd4
        clear hc4 hs4 hm4 hd4
        go_wp2_with fail
        refine (HF.out w4 HD4.out.dp HD4.out.pair.rp).mono ?_
        rintro e w5 ⟨R5, rfl, hc5, hR5, hr5, hm5, hf5⟩
        rw [← HL.out.r, ← HL.out.pc] at hc5
        have hd5 := HD4.out.stepD hc5 hr5 hm5 hf5
        have HD5 := Lib.hid hd5
        have HE5 : Hid (cores o.A = cores (rpgs R5)) := Lib.hid (by rw [hR5]; exact HL.out.cores)
        clear hc5 hr5 hm5 hf5 hR5 hd5
        rw [HSv.out]
        obtain ⟨kind, num, why, r6, pc6, A6⟩ := o
        unfold Out.stop
        simp only at HD5 HE5 hkd ⊢
        clear HD4 HF HSt HL HBk HSv
        have hd7 : Hid (Below w5.heap.size w5 ((w5.alloc (.cells #[.int .u8 kind, .int .u32 num, .int .i64 why] 29)).alloc (.cells #[.int .u8 kind, .int .u32 num, .int .i64 why] 29))) := Lib.hid (((Below.refl _ _).alloc (Nat.le_refl _) _).alloc (by simp) _)
        have HSm := Lib.hid (same06 (HD5.out.below hd7.out).cp (HD5.out.below hd7.out).dp)
        have hx7 : ((w5.alloc (.cells #[.int .u8 kind, .int .u32 num, .int .i64 why] 29)).alloc (.cells #[.int .u8 kind, .int .u32 num, .int .i64 why] 29)).heap[w5.heap.size]? = some (.cells #[.int .u8 kind, .int .u32 num, .int .i64 why] 29 (0, 0)) := (Below.heap_alloc _ _ _ (by simp)).trans (heap_alloc_new w5 _)
        have HX7 := Lib.hid hx7
        clear hx7
        go_wp2_with fail
        refine HSm.out.mono ?_
        rintro e w8 ⟨rfl, hb8⟩
        obtain ⟨v0, _, _⟩ := cells3 ((hb8.block _ (lt_of_block HX7.out)).trans HX7.out)
        have HD8 := Lib.hid ((HD5.out.below hd7.out).below hb8)
        clear hb8 HSm HX7 HD5 hd7 HD
        rcases hkd with rfl | rfl | rfl
        · go_wp2
          exact ⟨⟨i + 1, A6, lv2, R5, r6, pc6, by omega, by go_num, HD8.out, HE5.out⟩, by simp [intOf]; omega⟩
        · go_wp2
          exact ⟨⟨i + 1, A6, lv2, R5, r6, pc6, by omega, by go_num, HD8.out, HE5.out⟩, by simp [intOf]; omega⟩
        · go_wp2_with (first | (go_at_call 31; (with_reducible refine (Sp.same HD8.out.pair HE5.out).mono ?_); rintro e w9 ⟨rfl, hb9⟩) | (go_at_call 26; (with_reducible refine (alive06 _).mono ?_); rintro e w10 ⟨rfl, hb10⟩))
          go_ret
          exact ⟨rfl, HD8.out.bel.trans ((below_th hb9 hb10).mono HD8.out.bel.size)⟩
      · obtain rfl : i = q := by omega
        go_wp2_with (first | (go_at_call 31; (with_reducible refine (Sp.same HD.out.pair HE.out).mono ?_); rintro e w9 ⟨rfl, hb9⟩) | (go_at_call 26; (with_reducible refine (alive06 _).mono ?_); rintro e w10 ⟨rfl, hb10⟩))
        go_ret
        exact ⟨rfl, HD.out.bel.trans ((below_th hb9 hb10).mono HD.out.bel.size)⟩
end Cp
end Go.Proofs.YtldmglodjafklaaGreat
