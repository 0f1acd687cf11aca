/- The walk of aediculelaw06.CpuAlone. -/
import Derived.Test.YtldmglodjafklaaGreatTwin
import Derived.Test.YtldmglodjafklaaGreatRunsB
import Derived.Test.YtldmglodjafklaaGreatAloneP
import Derived.Deep.QuietTactic
import Derived.BigQuiet
namespace Go.Proofs.YtldmglodjafklaaGreat
open Go.RowKit Word
set_option linter.unusedVariables false
set_option linter.unusedSimpArgs false
namespace Cp
theorem al_of_cell {w : World} {b i : Nat} {v : Value} (h : w.cell? ⟨b, i, none⟩ = some v) : b < w.heap.size := by
  unfold World.cell? at h
  cases hg : w.heap[b]? with
  | none => rw [hg] at h; cases h
  | some _ => exact lt_of_block hg
theorem al_drewN {B : Nat} {a w : World} (h : Below B a w) (n : Nat) : Below B a (w.drewN n) := h.trans ⟨rfl, rfl, rfl, Nat.le_refl _, fun _ _ => rfl⟩
theorem al_index (s : ByteArray) (k : Nat) (hk : k < s.size) (w : World) : (Instr.index 9 (.string s) (.int .i64 k)).run Tryz.prog w = .ok (.int .u8 ((nums s).getD k 0)) w := by
  rw [← nums_get s k hk]
  go_simp
/-- What has been seen of bytes that changed. -/
structure Acc (D : Prop) (lo f l : Int) (sm : Bool) : Prop where
  no : sm = false → f = 0 ∧ l = 0
  yes : sm = true → D ∧ lo ≤ f ∧ f ≤ l ∧ l < lo + 4
def rgRel (w : World) (d : Nat) (ne : Prop) (vc vi : Value) (wr : World) : Prop := ∃ (c i : Nat), i ≤ 16 ∧ c ≤ 1 ∧ (c = 1 → d < i ∧ ne) ∧ vc = .int .i64 c ∧ vi = .int .i64 i ∧ wr = w
def alRel (w : World) (n : Nat) (Q : List Int) (D : Prop) (lo : Int) (vf vl vs vi : Value) (wr : World) : Prop :=
  ∃ (i : Nat) (f l : Int) (sm : Bool), i ≤ n ∧ vf = .int .u32 f ∧ vl = .int .u32 l ∧ vs = .bool sm ∧ vi = .int .i64 i ∧ Below w.heap.size w wr ∧ Acc D lo f l sm ∧ ∀ j q, i ≤ j → Q[j]? = some q → sm = true → l < q
def beRel (w : World) (p : Int) (D : Prop) (lo : Int) (vf vl vs vk : Value) (wr : World) : Prop :=
  ∃ (k : Nat) (f l : Int) (sm : Bool), k ≤ 256 ∧ vf = .int .u32 f ∧ vl = .int .u32 l ∧ vs = .bool sm ∧ vk = .int .i64 k ∧ Below w.heap.size w wr ∧ Acc D lo f l sm ∧ (sm = true → l < p + k)
theorem Acc.put {D : Prop} {lo f l p : Int} {sm : Bool} (h : Acc D lo f l sm) (hl : sm = true → l < p) (hd : D) (h1 : lo ≤ p) (h2 : p < lo + 4) : Acc D lo (if sm then f else p) p true := by
  refine ⟨fun g => (nomatch g), fun _ => ?_⟩
  cases sm with
  | true =>
    have h3 := h.yes rfl
    have h4 := hl rfl
    exact ⟨hd, h3.2.1, by simp only [if_true]; omega, h2⟩
  | false => exact ⟨hd, by simpa using h1, by simp, h2⟩
set_option maxRecDepth 100000 in
set_option maxHeartbeats 8000000 in
theorem cpuAlone (w : World) (x : St) (hp : x.pre w) (n : Int) (n0 : 0 ≤ n) (n1 : n ≤ 255) :
    Calls Tryz.prog 6 #[.agg x.cells, .int .u8 n] w fun e w' => e = .returned (.bool true) ∧ Below w.heap.size w w' := by
  have hb : Below w.heap.size w (w.alloc (.cells x.cells 55)) := (Below.refl _ _).alloc (Nat.le_refl _) _
  have hbx : StBox (w.alloc (.cells x.cells 55)) w.heap.size x := ⟨heap_alloc_new w _⟩
  have HHv := Lib.hid (heavy06 (w.alloc (.cells x.cells 55)) x)
  have hmade : heavyV x = false → ∀ w1, Below (w.alloc (.cells x.cells 55)).heap.size (w.alloc (.cells x.cells 55)) w1 → Calls Tryz.prog 27 #[.agg x.cells] w1 (MadePost w1 x) := fun hh w1 hb1 => made w1 x (hp.toOk (below_th hb hb1) hh)
  have HMd := Lib.hid hmade
  have HB := Lib.hid hb
  have HBx := Lib.hid hbx
  obtain ⟨b0, b1, b2, b3, b4, b5, b6⟩ := hbx.cells
  clear hmade hb hbx hp
  have HR0 : Hid (rg x.regs 0 = 0) := Lib.hid rfl
  unfold St.cells at *
  obtain ⟨m, rfl⟩ := Int.eq_ofNat_of_zero_le n0
  obtain ⟨a, hq⟩ : ∃ q : Nat, m % 40 = q := ⟨_, rfl⟩
  have ha5 : a < 40 := by omega
  have hqt : (m : Int).tmod 40 = a := by rw [Int.tmod_eq_emod_of_nonneg (by omega)]; omega
  have hqe : (m : Int) % 40 = a := by omega
  clear hq
  cases hh : heavyV x with
  | true =>
    have HH := Lib.hid hh
    clear hh
    go_enter Tryz.func6, Tryz.ntmps6
    go_wp2_with fail
    refine HHv.out.mono ?_
    rintro e w1 ⟨rfl, hb1⟩
    rw [HH.out]
    have HB1 := Lib.hid (below_th HB.out hb1)
    clear hb1
    go_wp2_with fail
    refine (alive06 _).mono ?_
    rintro e w2 ⟨rfl, hb2⟩
    have HB2 := Lib.hid (below_th HB1.out hb2)
    clear hb2
    go_wp2
    go_ret
    exact ⟨rfl, HB2.out⟩
  | false =>
    have HH := Lib.hid hh
    clear hh
    go_enter Tryz.func6, Tryz.ntmps6
    go_wp2_with fail
    refine HHv.out.mono ?_
    rintro e w1 ⟨rfl, hb1⟩
    rw [HH.out]
    have hbx1 := HBx.out.below hb1 (by simp)
    obtain ⟨b0, b1, b2, b3, b4, b5, b6⟩ := hbx1.cells
    have HM1 := Lib.hid (HMd.out HH.out w1 hb1)
    have HB1 := Lib.hid (below_th HB.out hb1)
    clear hb1 hbx1 HBx
    go_wp2_with fail
    refine HM1.out.mono ?_
    rintro e w2 ⟨cb, sb, mb, A, db, rb, lv, R, rfl, hd, he, _⟩
    have HD := Lib.hid (hd.weaken HB1.out)
    clear hd he b0 b1 b2 b3 b4 b5 b6 HM1 HMd HHv
    generalize x.regs = r at *
    generalize x.pc = pc at *
    have hr0 := (run_r0 a A r pc).trans HR0.out
    have hr2 := run_any HD.out.cp HD.out.pair.sp HD.out.ca a (by omega)
    have hbk := blks_run a A r pc
    generalize run A r pc a = q1 at *
    obtain ⟨⟨k1, n1', y1, r1, pc1, A1⟩, m1⟩ := q1
    simp only at hr0 hbk
    have HR2 := Lib.hid hr2
    have HBk := Lib.hid hbk
    have HR1 := Lib.hid hr0
    clear hr2 hbk hr0 HR0
    go_wp2_with fail
    refine HR2.out.mono ?_
    rintro e w3 ⟨rfl, hc3, hs3, hm3⟩
    have HD3 := Lib.hid (HD.out.stepC hc3 hs3 HBk.out hm3)
    clear hc3 hs3 hm3 HR2 HBk HD
    go_wp2_with fail
    refine (copy HD3.out.cp).mono ?_
    rintro e w4 ⟨rfl, hc4, hb4⟩
    have HD4 := Lib.hid (HD3.out.below hb4)
    have HC4 := Lib.hid hc4
    have HB4 := Lib.hid hb4
    clear hc4 hb4
    go_wp2_with fail
    refine (Sp.copy HD4.out.pair.sp).mono ?_
    rintro e w5 ⟨so, mo, C, rfl, hs5, hcc, hf5, hb5⟩
    have HT := Lib.hid (HD3.out.twin HC4.out HB4.out hs5 hf5 hb5)
    have HCC := Lib.hid hcc
    clear hs5 hcc hf5 hb5 HC4 HB4 HD4 HD3
    obtain ⟨eb, heb⟩ : ∃ e, w3.heap.size = e := ⟨_, rfl⟩
    rw [heb] at HT ⊢
    clear heb
    have htold := told_stp (Kp.Ok.of HT.out.one.pair.sp) (Kp.Ok.of HT.out.two.pair.sp) HCC.out HT.out.one.cp.regs pc1
    obtain ⟨D, lo, d, ht⟩ := htold
    have hst := step HT.out.one.cp HT.out.one.pair.sp HT.out.one.ca
    have hbk := blks_stp A1 r1 pc1
    have hkd := stp_kind A1 r1 pc1
    generalize stp A1 r1 pc1 = o at *
    obtain ⟨kind, num, why, r2, pc2, A2⟩ := o
    simp only at hbk hkd ht
    have HSt := Lib.hid hst
    have HBk := Lib.hid hbk
    have HTo := Lib.hid ht
    have Hkd := Lib.hid hkd
    clear hst hbk ht hkd
    go_wp2_with fail
    refine HSt.out.mono ?_
    rintro e w6 ⟨rfl, hc6, hs6, hm6⟩
    simp only at hc6 hs6
    have ht6 := HT.out.runC hc6 hs6 HBk.out hm6
    have hbb : Below w6.heap.size w6 (w6.alloc (.cells #[.int .u8 kind, .int .u32 num, .int .i64 why] 29)) := (Below.refl _ _).alloc (Nat.le_refl _) _
    have HT6 := Lib.hid (ht6.below hbb)
    have HX6 : Hid (StpBox (w6.alloc (.cells #[.int .u8 kind, .int .u32 num, .int .i64 why] 29)) w6.heap.size kind num why) := Lib.hid ⟨heap_alloc_new w6 _⟩
    clear hc6 hs6 hm6 ht6 hbb HT HSt HBk
    unfold Out.stop
    simp only
    go_wp2
    generalize hW : w6.alloc (.cells #[.int .u8 kind, .int .u32 num, .int .i64 why] 29) = W at *
    generalize w6.heap.size = bx at *
    clear hW
    go_loopw [13, 14, 15, 16, 17, 18] (fun vc vi _ _ _ _ wr => rgRel W d (r2 ≠ r1) vc vi wr) (fun _ vi _ _ _ _ _ => 16 - (intOf vi).toNat)
    case atStart => exact ⟨0, 0, by omega, by omega, fun g => absurd g (by omega), by go_num, by go_num, rfl⟩
    case round =>
      obtain ⟨c, i, hi, hc1, hcd, rfl, rfl, rfl⟩ := hrel
      by_cases hi2 : i < 16
      · have Hg1 := Lib.hid (reg_ok HT6.out.one.cp i hi2)
        have Hg2 := Lib.hid (reg_ok HT6.out.two.cp i hi2)
        have hrg := HTo.out.regs i
        have hne : rg r2 i ≠ rg r1 i → r2 ≠ r1 := fun g e => g (by rw [e])
        generalize rg r2 i = va at *
        generalize rg r1 i = vb at *
        by_cases e : va = vb
        · subst e
          clear hrg hne
          have Hcd := Lib.hid hcd
          clear hcd
          go_wp2_with fail
          refine Hg1.out.mono ?_
          rintro e w7 ⟨rfl, rfl⟩
          go_wp2_with fail
          refine Hg2.out.mono ?_
          rintro e w7 ⟨rfl, rfl⟩
          go_wp2
          exact ⟨⟨c, i + 1, by omega, hc1, fun g => ⟨Nat.lt_succ_of_lt (Hcd.out g).1, (Hcd.out g).2⟩, rfl, by go_num, rfl⟩, by simp [intOf]; omega⟩
        · obtain rfl : i = d := Classical.byContradiction fun g => e (hrg g)
          obtain rfl : c = 0 := by
            have : ¬ c = 1 := fun g => absurd (hcd g).1 (Nat.lt_irrefl _)
            omega
          have Hne := Lib.hid (hne e)
          clear hrg hne hcd
          have eb1 : (va != vb) = true := bne_iff_ne.2 e
          go_wp2_with fail
          refine Hg1.out.mono ?_
          rintro e w7 ⟨rfl, rfl⟩
          go_wp2_with fail
          refine Hg2.out.mono ?_
          rintro e w7 ⟨rfl, rfl⟩
          go_wp2
          exact ⟨⟨1, i + 1, by omega, by omega, fun _ => ⟨Nat.lt_succ_self _, Hne.out⟩, by go_num, by go_num, rfl⟩, by simp [intOf]; omega⟩
      · obtain rfl : i = 16 := by omega
        have Hcr : Hid (c = 1 → r2 ≠ r1) := Lib.hid fun g => (hcd g).2
        clear hcd hi hi2
        have Hg1 := Lib.hid (reg_ok HT6.out.one.cp 0 (by omega))
        rw [show rg r2 ((0 : Nat) : Int) = 0 from HTo.out.zero.trans HR1.out] at Hg1
        go_wp2_with fail
        refine Hg1.out.mono ?_
        rintro e w7 ⟨rfl, rfl⟩
        clear Hg1
        go_wp2_with fail
        refine (Pag.pages HT6.out.one.pair.sp).mono ?_
        rintro e w7 ⟨v1, rfl, ho1, hb7⟩
        have HT7 := Lib.hid (HT6.out.below hb7)
        have HX7 := Lib.hid (HX6.out.below hb7)
        have hl1 : A2.length = (Pag.addrs A2).length := by unfold Pag.addrs; rw [List.length_map]
        rw [hl1] at ho1
        obtain ⟨a1, c1, rfl, hw1⟩ := Rs.words_own ho1
        have hwl1 : ∀ i, i < (Pag.addrs A2).length → ∃ g o, a1 = some ⟨g, o, none⟩ ∧ g < w7.heap.size ∧ w7.cell? ⟨g, o + i, none⟩ = (Pag.addrs A2)[i]?.map (Value.int .u32) := fun i hi => by
          obtain ⟨g, o, h1, h2⟩ := hw1.cell i hi
          exact ⟨g, o, h1, al_of_cell h2, by rw [h2, List.getElem?_eq_getElem hi]; rfl⟩
        have Hwl1 := Lib.hid hwl1
        have Hw1 := Lib.hid hw1
        clear ho1 hw1 hwl1 hb7 hl1 HT6 HX6
        go_wp2_with fail
        refine (Pag.pages HT7.out.two.pair.sp).mono ?_
        rintro e w8 ⟨v2, rfl, ho2, hb8⟩
        have hl2 : C.length = (Pag.addrs C).length := by unfold Pag.addrs; rw [List.length_map]
        rw [hl2] at ho2
        obtain ⟨a2, c2, rfl, hw2⟩ := Rs.words_own ho2
        have hw15 : Rs.Words w8 a1 (Pag.addrs A2) := ⟨fun i hi => by
          obtain ⟨g, o, h1, h2⟩ := Hw1.out.cell i hi
          exact ⟨g, o, h1, (hb8.cell (p := ⟨g, o + i, none⟩) (al_of_cell h2)).trans h2⟩, Hw1.out.len⟩
        have Hsw := Lib.hid (Rs.sameWords (ca := c1) (cb := c2) hw15 hw2)
        rw [decide_eq_true HTo.out.same] at Hsw
        have HB8 := Lib.hid hb8
        clear ho2 hw2 hw15 hb8 hl2
        generalize (Pag.addrs C).length = lc at *
        have hll := Hw1.out.len
        have HUp := Lib.hid HTo.out.up
        obtain ⟨la, hla⟩ : ∃ la, (Pag.addrs A2).length = la := ⟨_, rfl⟩
        have Hla := Lib.hid hla
        rw [hla] at Hsw hll ⊢
        clear hla
        go_wp2_with fail
        refine Hsw.out.mono ?_
        rintro e w9 ⟨rfl, hb9⟩
        have HB9 := Lib.hid (below_th HB8.out hb9)
        clear hb9 Hsw HB8
        go_wp2
        go_loopw [21, 22, 23, 25, 26, 27, 28, 29, 30, 31, 32] (fun vf vl vs vi _ _ _ _ _ _ _ wr => alRel w7 la (Pag.addrs A2) D lo vf vl vs vi wr) (fun _ _ _ vi _ _ _ _ _ _ _ _ => la - (intOf vi).toNat)
        case atStart => exact ⟨0, 0, 0, false, Nat.zero_le _, by go_num, by go_num, rfl, by go_num, HB9.out, ⟨fun _ => ⟨rfl, rfl⟩, fun g => (nomatch g)⟩, fun _ _ _ _ g => (nomatch g)⟩
        case round =>
          clear HB9
          clear w8 w9
          obtain ⟨i, f, l, sm, hi, rfl, rfl, rfl, rfl, hbr, hacc, hup⟩ := hrel
          by_cases hin : i < la
          · have hil : i < (Pag.addrs A2).length := by rw [Hla.out]; exact hin
            obtain ⟨pa, hpa, p0, p1, f1, f2, f3, f4, f5, f5', f6⟩ := HTo.out.page i hil
            have hlp := hup i pa (Nat.le_refl _) hpa
            have hnx : Hid (∀ j q, i + 1 ≤ j → (Pag.addrs A2)[j]? = some q → pa + 256 ≤ q) := Lib.hid fun j q hj hq => HUp.out i j (by omega) (by
              rcases Nat.lt_or_ge j (Pag.addrs A2).length with g | g
              · exact g
              · rw [List.getElem?_eq_none g] at hq; cases hq) pa q hpa hq
            obtain ⟨g, o, rfl, hgl, hc7⟩ := Hwl1.out i hil
            rw [hpa] at hc7
            have hc7' : w7.cell? ⟨g, o + i, none⟩ = some (.int .u32 pa) := hc7
            have Hc7 := Lib.hid hc7'
            have Hbr := Lib.hid hbr
            have hcr := (hbr.cell (p := ⟨g, o + i, none⟩) hgl).trans hc7'
            have HTr := Lib.hid (HT7.out.below hbr)
            have Hla1 := Lib.hid (Sp.look HTr.out.one.pair.sp pa 256 p0 (by omega))
            have hlc := fun W' (hW : Below wr.heap.size wr W') => Sp.look (HTr.out.below hW).two.pair.sp pa 256 p0 (by omega)
            have hpm := fun W' (hW : Below wr.heap.size wr W') => Sp.perm_any (HTr.out.below hW).one.pair.sp pa p0 (by omega)
            have Hlc := Lib.hid hlc
            have Hpm := Lib.hid hpm
            have F6 := Lib.hid f6
            have Hacc := Lib.hid hacc
            have Hlp := Lib.hid hlp
            rw [f1] at Hla1
            rw [f2] at Hlc
            clear hlc hpm f1 f2 f6 hc7 hc7' hbr hpa hacc hup hlp
            generalize Sp.getS A2 pa 256 0 = sa at *
            generalize Sp.getS C pa 256 0 = sc2 at *
            generalize Sp.permV A2 pa = pv at *
            generalize Sp.permB A2 pa = b1 at *
            have za : ((sa.size : Int) != 256) = false := by rw [f3]; rfl
            have zc : ((sc2.size : Int) != 256) = false := by rw [f4]; rfl
            go_wp2_with fail
            refine Hla1.out.mono ?_
            rintro e w10 ⟨rfl, hb10⟩
            have hc10 := ((Hbr.out.trans (hb10.mono Hbr.out.size)).cell (p := ⟨g, o + i, none⟩) hgl).trans Hc7.out
            have HB10 := Lib.hid hb10
            clear hb10 hcr Hla1
            go_wp2_with fail
            refine (Hlc.out _ HB10.out).mono ?_
            rintro e w11 ⟨rfl, hb11⟩
            have HB11 := Lib.hid (below_th HB10.out hb11)
            have hc11 := ((Hbr.out.trans (HB11.out.mono Hbr.out.size)).cell (p := ⟨g, o + i, none⟩) hgl).trans Hc7.out
            clear hb11 hc10 HB10 Hlc
            go_wp2_with fail
            refine (Hpm.out _ HB11.out).mono ?_
            rintro e w12 ⟨rfl, rfl⟩
            have HW11 := Lib.hid (Hbr.out.trans (HB11.out.mono Hbr.out.size))
            have Hc11 := Lib.hid hc11
            clear hc11 HTr Hpm HB11 Hbr
            clear wr w10
            go_wp2
            go_loopw [21, 22, 23, 32] (fun vf vl vs vk wr => beRel w11 pa D lo vf vl vs vk wr) (fun _ _ _ vk _ => 256 - (intOf vk).toNat)
            case atStart => exact ⟨0, f, l, sm, by omega, rfl, rfl, rfl, by go_num, Below.refl _ _, Hacc.out, fun g => by have := Hlp.out g; omega⟩
            case round =>
              clear Hacc Hlp
              obtain ⟨k, f, l, sm, hk, rfl, rfl, rfl, rfl, hbk, hacc, hlp⟩ := hrel
              have HBk := Lib.hid hbk
              have hgw : g < w11.heap.size := al_of_cell Hc11.out
              have hck := (hbk.cell (p := ⟨g, o + i, none⟩) hgw).trans Hc11.out
              have Hacc := Lib.hid hacc
              have Hlp := Lib.hid hlp
              clear hbk hacc hlp
              by_cases hk2 : k < 256
              · have hxa := fun W' => al_index sa k (by omega) W'
                have hxc := fun W' => al_index sc2 k (by omega) W'
                have hfk := F6.out k hk2
                generalize (nums sa).getD k 0 = va at *
                generalize (nums sc2).getD k 0 = vc at *
                by_cases e : va = vc
                · subst e
                  clear hfk
                  go_wp2
                  go_quiet (fail)
                  go_wp2
                  exact ⟨⟨k + 1, f, l, sm, by omega, rfl, rfl, rfl, by go_num, by first | exact HBk.out | exact al_drewN HBk.out _ | exact (al_drewN HBk.out _).drew, Hacc.out, fun g => by have := Hlp.out g; omega⟩, by simp [intOf]; omega⟩
                · obtain ⟨q1, q2, q3, q4⟩ := hfk.resolve_right e
                  have hA := Lib.hid (Hacc.out.put Hlp.out q1 q3 q4)
                  clear q1 q3 q4 hfk
                  have eb1 : (va == vc) = false := beq_eq_false_iff_ne.2 e
                  have hwk : (pa + k) % 4294967296 = pa + k := by omega
                  cases sm with
                  | true =>
                    go_wp2
                    go_quiet (fail)
                    go_wp2
                    exact ⟨⟨k + 1, f, pa + k, true, by omega, rfl, by go_num, rfl, by go_num, by first | exact HBk.out | exact al_drewN HBk.out _ | exact (al_drewN HBk.out _).drew, hA.out, fun _ => by omega⟩, by simp [intOf]; omega⟩
                  | false =>
                    go_wp2
                    go_quiet (fail)
                    go_wp2
                    exact ⟨⟨k + 1, pa + k, pa + k, true, by omega, by go_num, by go_num, rfl, by go_num, by first | exact HBk.out | exact al_drewN HBk.out _ | exact (al_drewN HBk.out _).drew, hA.out, fun _ => by omega⟩, by simp [intOf]; omega⟩
              · obtain rfl : k = 256 := by omega
                go_wp2
                exact ⟨⟨i + 1, f, l, sm, by omega, rfl, rfl, rfl, by go_num, HW11.out.trans (HBk.out.mono HW11.out.size), Hacc.out, fun j q hj hq g => by
                  have := Hlp.out g
                  have := hnx.out j q hj hq
                  omega⟩, by simp [intOf]; omega⟩
          · obtain rfl : i = la := by omega
            have HTr := Lib.hid (HT7.out.below hbr)
            obtain ⟨t0, _, _, _, _, _⟩ := (HX7.out.below hbr).cells
            have HR7 := Lib.hid hbr
            clear hbr hup hi hin
            by_cases hk2 : kind = 2
            · subst hk2
              obtain ⟨g1, g2, g3⟩ := HTo.out.still rfl
              simp only at g1 g2
              subst g2
              obtain rfl : c = 0 := by
                have : ¬ c = 1 := fun g => Hcr.out g g1
                omega
              obtain rfl : sm = false := by
                cases sm with
                | false => rfl
                | true => exact absurd (hacc.yes rfl).1 g3
              clear g1 g3 hacc
              go_wp2_with fail
              refine (pc_ok HTr.out.one.cp).mono ?_
              rintro e w10 ⟨rfl, rfl⟩
              go_wp2_with fail
              refine (pc_ok HTr.out.two.cp).mono ?_
              rintro e w10 ⟨rfl, rfl⟩
              go_wp2_with fail
              refine (alive06 _).mono ?_
              rintro e w10 ⟨rfl, hb10⟩
              have HF := Lib.hid (HTr.out.below hb10)
              clear hb10
              go_wp2
              go_ret
              exact ⟨rfl, HF.out.one.bel⟩
            · have kb : (kind == 2) = false := beq_eq_false_iff_ne.2 hk2
              cases sm with
              | false =>
                obtain ⟨rfl, rfl⟩ := hacc.no rfl
                clear hacc
                have hcl : (c : Int) ≤ 1 := by omega
                go_wp2_with fail
                refine (alive06 _).mono ?_
                rintro e w10 ⟨rfl, hb10⟩
                have HF := Lib.hid (HTr.out.below hb10)
                clear hb10
                go_wp2
                go_ret
                exact ⟨rfl, HF.out.one.bel⟩
              | true =>
                obtain ⟨y1, y2, y3, y4⟩ := hacc.yes rfl
                obtain rfl : c = 0 := by
                  have : ¬ c = 1 := fun g => Hcr.out g (HTo.out.calm y1)
                  omega
                clear hacc y1
                have hw4 : (l - f) % 4294967296 < 4 := by omega
                go_wp2_with fail
                refine (alive06 _).mono ?_
                rintro e w10 ⟨rfl, hb10⟩
                have HF := Lib.hid (HTr.out.below hb10)
                clear hb10
                go_wp2
                go_ret
                exact ⟨rfl, HF.out.one.bel⟩
end Cp
end Go.Proofs.YtldmglodjafklaaGreat
