/- The walk of aediculelaw05.SpaceKeeps. -/
import Derived.Test.YtldmglodjafklaaPlaysA
import Derived.Test.YtldmglodjafklaaKeepsP
import Derived.Deep.QuietTactic
import Derived.BigQuiet
namespace Go.Proofs.Ytldmglodjafklaa
open Go.RowKit
set_option linter.unusedVariables false
namespace Sp
theorem own_pair {w0 w : World} {sb mb : Nat} {A : List Pg} (h : Own w0 w sb mb A) : Pair (w.alloc (.cells #[.slice none 0 0] 55)) sb mb A w.heap.size (.slice none 0 0) [] :=
  ⟨h.spc.below ((Below.refl _ _).alloc (Nat.le_refl _) _) fun k hk => h.spc.lt hk, rsp_nil (by simpa using heap_alloc_new w _), fun k hk g => by
    have := h.spc.lt hk
    rcases g with rfl | g | ⟨q, hq, _⟩
    · omega
    · cases g
    · simp at hq⟩
theorem own_does {w0 w w' : World} {sb mb : Nat} {A A' : List Pg} {lv' : Value} {R' : List Rp} (h : Own w0 w sb mb A) (s : DStep (w.alloc (.cells #[.slice none 0 0] 55)) w' sb mb A w.heap.size (.slice none 0 0) [] A' lv' R') : Own w0 w' sb mb A' := by
  have hz := h.bel.size
  have hm := s.mod
  refine ⟨s.pair.sp, fun k hk => ?_, ?_⟩
  · rcases s.fa k hk with g | g
    · exact h.base k g
    · simp at g; omega
  · refine Mod.below (h.bel.alloc hz _) hm (by simp; omega) fun k _ hk => ?_
    rcases hk with g | g | g | ⟨q, hq, _⟩
    · exact h.base k g
    · omega
    · cases g
    · simp at hq
structure KS (w0 w : World) (sb mb : Nat) (A : List Pg) (sc mc : Nat) (C : List Pg) : Prop where
  sp : Spc w sb mb A
  cp : Spc w sc mc C
  bel : Below w0.heap.size w0 w
theorem KS.below {w0 w w' : World} {sb mb sc mc : Nat} {A C : List Pg} (h : KS w0 w sb mb A sc mc C) (hb : Below w.heap.size w w') : KS w0 w' sb mb A sc mc C :=
  ⟨h.sp.below hb fun _ hk => h.sp.lt hk, h.cp.below hb fun _ hk => h.cp.lt hk, h.bel.trans (hb.mono h.bel.size)⟩
theorem ks_step {w0 w w1 w2 : World} {sb mb sc mc : Nat} {A A1 C : List Pg} (h : Own w0 w sb mb A) (hC : Spc w1 sc mc C) (hf : ∀ k, Spc.foot sc mc C k → w.heap.size ≤ k) (hb : Below w.heap.size w w1) (s : SStep w1 w2 sb mb A A1) : KS w0 w2 sb mb A1 sc mc C :=
  ⟨s.sp, hC.keep s.mod fun k hk g => by have := hf k hk; have := h.spc.lt g; omega, Mod.below (h.bel.trans (hb.mono h.bel.size)) s.mod (Nat.le_trans h.bel.size hb.size) fun k _ hk => h.base k hk⟩
def kpRel (w : World) (len sb mb : Nat) (vi : Value) (wr : World) : Prop := ∃ (k : Nat) (A : List Pg), k ≤ len ∧ vi = .int .i64 k ∧ Own w wr sb mb A
theorem lt_of_cell {w : World} {b i : Nat} {v : Value} (h : w.cell? ⟨b, i, none⟩ = some v) : b < w.heap.size := by
  unfold World.cell? at h
  cases hg : w.heap[b]? with
  | none => rw [hg] at h; cases h
  | some _ => exact lt_of_block hg
theorem b_drewN {B : Nat} {a w : World} (h : Below B a w) (n : Nat) : Below B a (w.drewN n) := h.trans ⟨rfl, rfl, rfl, Nat.le_refl _, fun _ _ => rfl⟩
def kqRel (w : World) (n : Nat) (vi : Value) (wr : World) : Prop := ∃ i : Nat, i ≤ n ∧ vi = .int .i64 i ∧ Below w.heap.size w wr
theorem str_index (s : ByteArray) (k : Nat) (hk : k < s.size) (w : World) : (Instr.index 9 (.string s) (.int .i64 k)).run Try.prog w = .ok (.int .u8 ((nums s).getD k 0)) w := by
  rw [← nums_get s k hk]
  go_simp
set_option maxRecDepth 100000 in
set_option maxHeartbeats 4000000 in
theorem spaceKeeps (w : World) (a : Option Addr) (cap : Nat) (xs : List StepR) (ad : Int) (s : ByteArray) (st : Bool) (sl : Rd.Sl w 4 stepQ a cap xs) (sz : xs.length * Try.prog.bytesOf 58 < 140737488355328) (wp : (Lit.int .u32 ad).wf = true) (hs : s.size < 140737488355328) :
    Calls Try.prog 6 #[.slice a xs.length cap, .int .u32 ad, .string s, .bool st] w fun e w' => e = .returned (.bool true) ∧ Below w.heap.size w w' := by
  have hb32 : Try.prog.bytesOf 58 = 40 := by kernel_rfl
  rw [hb32] at sz
  obtain ⟨hcells, hok⟩ := sl_steps sl
  have hp := bounds_u32 wp
  have hp1 : ad ≤ 4294967295 := by have := hp.2; omega
  have hp0 := hp.1
  have hlen : xs.length ≤ 9223372036854775807 := by omega
  generalize hZ : (fun i => xs.getD i noStep) = Z at *
  have Hcells : Hid (0 < xs.length → ∃ b off, a = some ⟨b, off, none⟩ ∧ ∀ i, i < xs.length → StepAt w b off i (Z i)) := by rw [← hZ]; exact hcells
  have Hok : Hid (∀ i, i < xs.length → (Z i).ok) := by rw [← hZ]; exact hok
  have Hheavy := Lib.hid (heavy_any a xs.length cap Z w Hcells.out Hok.out hlen)
  clear sl hcells hok hZ hp wp hb32
  generalize xs.length = len at *
  cases hB : heavyB Z len with
  | true =>
    have HB := Lib.hid hB
    clear hB
    go_enter Try.func6, Try.ntmps6
    go_wp2_with fail
    refine Hheavy.out.mono ?_
    rintro e w1 ⟨rfl, rfl⟩
    rw [HB.out]
    go_wp2_with (go_at_call 15; (with_reducible refine (alive _).mono ?_); rintro e w1 ⟨rfl, hb⟩)
    go_ret
    exact ⟨rfl, by assumption⟩
  | false =>
    have HB := Lib.hid hB
    clear hB
    by_cases hL : 1000 < s.size
    · go_enter Try.func6, Try.ntmps6
      go_wp2_with fail
      refine Hheavy.out.mono ?_
      rintro e w1 ⟨rfl, rfl⟩
      rw [HB.out]
      go_wp2_with (go_at_call 15; (with_reducible refine (alive _).mono ?_); rintro e w1 ⟨rfl, hb⟩)
      go_ret
      exact ⟨rfl, by assumption⟩
    · go_enter Try.func6, Try.ntmps6
      go_wp2_with fail
      refine Hheavy.out.mono ?_
      rintro e w1 ⟨rfl, rfl⟩
      rw [HB.out]
      go_wp2_with fail
      refine (o_new _).mono ?_
      rintro e w1 ⟨rfl, h1⟩
      have H1 := Lib.hid h1
      clear h1
      generalize w.heap.size + 1 = sb at *
      obtain ⟨mb, hmb⟩ : ∃ mb, w.heap.size = mb := ⟨_, rfl⟩
      have H2 : Hid (Own w w1 sb mb []) := by rw [← hmb]; exact H1
      clear H1 hmb
      go_wp2
      go_loopw [10] (fun vi wr => kpRel w len sb mb vi wr) (fun vi _ => len - (intOf vi).toNat)
      case atStart => exact ⟨0, _, Nat.zero_le _, by go_num, H2.out⟩
      case round =>
        clear H2
        clear w1
        obtain ⟨k, A, hk, rfl, hown⟩ := hrel
        have HO := Lib.hid hown
        clear hown
        by_cases hk2 : k < len
        · obtain ⟨b, off, rfl, hcl⟩ := Hcells.out (by omega)
          have hsa0 := hcl k hk2
          have hbl : b < w.heap.size := by have := hsa0.dod; unfold World.cell? at this; cases hg : w.heap[b]? with | none => rw [hg] at this; cases this | some _ => exact lt_of_block hg
          have hz := HO.out.bel.size
          have hsa := hsa0.below (HO.out.bel.alloc hz (.cells #[.slice none 0 0] 55)) hbl
          have Hx := Lib.hid (Hok.out k hk2)
          clear hsa0 hcl
          generalize Z k = x at *
          obtain ⟨d, xa, xn, t⟩ := x
          have s1 := hsa.dod
          have s2 := hsa.addr
          have s3 := hsa.n
          have s4 := hsa.text
          simp only at s1 s2 s3 s4
          clear hsa
          go_wp2_with fail
          refine (does_any (own_pair HO.out) ⟨d, xa, xn, t⟩ Hx.out).mono ?_
          rintro e w2 ⟨A2, lv2, R2, bb, rfl, hd, _⟩
          have HO2 := Lib.hid (own_does HO.out hd)
          clear hd s1 s2 s3 s4
          go_wp2
          exact ⟨⟨k + 1, _, by omega, by go_num, HO2.out⟩, by simp [intOf]; omega⟩
        · obtain rfl : k = len := by omega
          go_wp2_with fail
          refine (copy HO.out.spc).mono ?_
          rintro e w2 ⟨sc, mc, C, rfl, hC, hCe, hCf, hCb⟩
          have HC := Lib.hid (⟨hC, hCe, hCf, hCb⟩ : Spc w2 sc mc C ∧ cores C = cores A ∧ (∀ k, Spc.foot sc mc C k → wr.heap.size ≤ k) ∧ Below wr.heap.size wr w2)
          clear hC hCe hCf hCb
          have hsp2 := HO.out.spc.below HC.out.2.2.2 fun k hk => HO.out.spc.lt hk
          have Hsp2 := Lib.hid hsp2
          clear hsp2
          have hm1 : s.size ≤ 140737488355328 := by omega
          cases st
          case' true =>
            go_wp2_with fail
            refine (s_set Hsp2.out ad s hp0 hp1 hm1).mono ?_
            rintro e w3 ⟨rfl, hst⟩
            have HK := Lib.hid (ks_step HO.out HC.out.1 HC.out.2.2.1 HC.out.2.2.2 hst)
            have HF := Lib.hid (Kp.facts (Kp.Ok.of HO.out.spc) (Kp.Ok.of HC.out.1) HC.out.2.1 ad 0 s (by omega))
            clear hst
            generalize putA A ad 0 s = A1 at *
            generalize fitsE A ad s.size 0 = E at *
          case' false =>
            go_wp2_with fail
            refine (s_write Hsp2.out ad s hp0 hp1 hm1).mono ?_
            rintro e w3 ⟨rfl, hst⟩
            have HK := Lib.hid (ks_step HO.out HC.out.1 HC.out.2.2.1 HC.out.2.2.2 hst)
            have HF := Lib.hid (Kp.facts (Kp.Ok.of HO.out.spc) (Kp.Ok.of HC.out.1) HC.out.2.1 ad 2 s (by omega))
            clear hst
            generalize putA A ad 2 s = A1 at *
            generalize fitsE A ad s.size 2 = E at *
          all_goals
            clear HC HO Hsp2
            clear wr w2
            go_wp2_with fail
            refine (Pag.pages HK.out.sp).mono ?_
            rintro e w4 ⟨v1, rfl, ho1, hb4⟩
            have HK4 := Lib.hid (HK.out.below hb4)
            have hl1 : A1.length = (Pag.addrs A1).length := by unfold Pag.addrs; rw [List.length_map]
            rw [hl1] at ho1
            obtain ⟨a1, c1, rfl, hw1⟩ := Rs.words_own ho1
            have hwl1 : ∀ i, i < (Pag.addrs A1).length → ∃ g o, a1 = some ⟨g, o, none⟩ ∧ g < w4.heap.size ∧ w4.cell? ⟨g, o + i, none⟩ = (Pag.addrs A1)[i]?.map (Value.int .u32) := fun i hi => by
              obtain ⟨g, o, h1, h2⟩ := hw1.cell i hi
              refine ⟨g, o, h1, ?_, by rw [h2, List.getElem?_eq_getElem hi]; rfl⟩
              unfold World.cell? at h2
              cases hg : w4.heap[g]? with
              | none => rw [hg] at h2; cases h2
              | some _ => exact lt_of_block hg
            have Hwl1 := Lib.hid hwl1
            have Hw1 := Lib.hid hw1
            clear ho1 hw1 hwl1 hb4 hl1
            clear HK
            clear w3
            go_wp2_with fail
            refine (Pag.pages HK4.out.cp).mono ?_
            rintro e w5 ⟨v2, rfl, ho2, hb5⟩
            have hl2 : C.length = (Pag.addrs C).length := by unfold Pag.addrs; rw [List.length_map]
            rw [hl2] at ho2
            obtain ⟨a2, c2, rfl, hw2⟩ := Rs.words_own ho2
            have hw15 : Rs.Words w5 a1 (Pag.addrs A1) := ⟨fun i hi => by
              obtain ⟨g, o, h1, h2⟩ := Hw1.out.cell i hi
              obtain ⟨g', o', h1', h3, h4⟩ := Hwl1.out i hi
              rw [h1] at h1'
              simp only [Option.some.injEq, Addr.mk.injEq] at h1'
              obtain ⟨rfl, rfl, _⟩ := h1'
              exact ⟨g, o, h1, (hb5.cell (p := ⟨g, o + i, none⟩) h3).trans h2⟩, Hw1.out.len⟩
            have Hsw := Lib.hid (Rs.sameWords (ca := c1) (cb := c2) hw15 hw2)
            rw [decide_eq_true HF.out.same] at Hsw
            have HB5 := Lib.hid hb5
            clear ho2 hw2 hw15 hb5 hl2
            generalize (Pag.addrs C).length = lc at *
            have hll := Hw1.out.len
            obtain ⟨la, hla⟩ : ∃ la, (Pag.addrs A1).length = la := ⟨_, rfl⟩
            have Hla := Lib.hid hla
            rw [hla] at Hsw hll ⊢
            clear hla
            rcases HF.out.err with rfl | rfl
            all_goals
              go_wp2_with fail
              refine Hsw.out.mono ?_
              rintro e w6 ⟨rfl, hb6⟩
              have HB6 := Lib.hid (below_th HB5.out hb6)
              have HK6 := Lib.hid (HK4.out.below HB6.out)
              clear hb6
              have Hlook := Lib.hid (look HK6.out.sp ad s.size hp0 hp1)
              first
                | (obtain ⟨e1, e2⟩ := HF.out.read rfl
                   rw [e1, e2] at Hlook
                   clear e1 e2)
                | (generalize getS A1 ad s.size 0 = gs at *
                   generalize getE A1 ad s.size 0 = ge at *)
              go_wp2_with fail
              refine Hlook.out.mono ?_
              rintro e w7 ⟨rfl, hb7⟩
              have HB7 := Lib.hid (below_th HB6.out hb7)
              clear hb7 Hlook
              clear HB6 HK6 HB5 Hsw
              go_wp2
              go_loopw [16, 17, 18, 19, 20, 21, 22, 23, 24, 25, 26, 27] (fun vi _ _ _ _ _ _ _ _ _ _ _ wr => kqRel w4 la vi wr) (fun vi _ _ _ _ _ _ _ _ _ _ _ _ => la - (intOf vi).toNat)
              case atStart => exact ⟨0, Nat.zero_le _, by go_num, HB7.out⟩
              case round =>
                clear HB7
                clear w5 w6 w7
                obtain ⟨i, hi, rfl, hbr⟩ := hrel
                by_cases hin : i < la
                · have hil : i < (Pag.addrs A1).length := by rw [Hla.out]; exact hin
                  obtain ⟨pa, hpa, p0, p1, f1, f2, f3, f4, f5, f6⟩ := HF.out.page i hil
                  obtain ⟨g, o, rfl, hgl, hc4⟩ := Hwl1.out i hil
                  rw [hpa] at hc4
                  have hc4' : w4.cell? ⟨g, o + i, none⟩ = some (.int .u32 pa) := hc4
                  have Hc4 := Lib.hid hc4'
                  have Hbr := Lib.hid hbr
                  have hcr := (hbr.cell (p := ⟨g, o + i, none⟩) hgl).trans hc4'
                  have HKr := Lib.hid (HK4.out.below hbr)
                  have Hla1 := Lib.hid (look HKr.out.sp pa 256 p0 (by omega))
                  have hlc := fun W (hW : Below wr.heap.size wr W) => look (HKr.out.below hW).cp pa 256 p0 (by omega)
                  have hpm := fun W (hW : Below wr.heap.size wr W) => perm_any (HKr.out.below hW).sp pa p0 (by omega)
                  have hpc := fun W (hW : Below wr.heap.size wr W) => perm_any (HKr.out.below hW).cp pa p0 (by omega)
                  have Hlc := Lib.hid hlc
                  have Hpm := Lib.hid hpm
                  have Hpc := Lib.hid hpc
                  have F6 := Lib.hid f6
                  rw [f1] at Hla1
                  rw [f2] at Hlc
                  rw [f5] at Hpm
                  clear hlc hpm hpc f1 f2 f5 f6 hc4 hc4' hbr hpa
                  generalize getS A1 pa 256 0 = sa at *
                  generalize getS C pa 256 0 = sc2 at *
                  generalize permV C pa = pv at *
                  generalize permB A1 pa = b1 at *
                  generalize permB C pa = b2 at *
                  have za : ((sa.size : Int) != 256) = false := by rw [f3]; rfl
                  have zc : ((sc2.size : Int) != 256) = false := by rw [f4]; rfl
                  go_wp2_with fail
                  refine Hla1.out.mono ?_
                  rintro e w8 ⟨rfl, hb8⟩
                  have hc8 := ((Hbr.out.trans (hb8.mono Hbr.out.size)).cell (p := ⟨g, o + i, none⟩) hgl).trans Hc4.out
                  have HB8 := Lib.hid hb8
                  clear hb8 hcr Hla1
                  go_wp2_with fail
                  refine (Hlc.out _ HB8.out).mono ?_
                  rintro e w9 ⟨rfl, hb9⟩
                  have HB9 := Lib.hid (below_th HB8.out hb9)
                  have hc9 := ((Hbr.out.trans (HB9.out.mono Hbr.out.size)).cell (p := ⟨g, o + i, none⟩) hgl).trans Hc4.out
                  clear hb9 hc8 HB8 Hlc
                  go_wp2_with (first | (go_at_call 29; (with_reducible refine (Hpm.out _ HB9.out).mono ?_); rintro e w10 ⟨rfl, rfl⟩) | (go_at_call 29; (with_reducible refine (Hpc.out _ HB9.out).mono ?_); rintro e w10 ⟨rfl, rfl⟩))
                  have Hc9 := Lib.hid hc9
                  have HW9 := Lib.hid (Hbr.out.trans (HB9.out.mono Hbr.out.size))
                  clear hc9 HKr Hpm Hpc HB9 Hbr
                  clear wr w8
                  go_loopw [25, 26, 27] (fun vk _ _ wr => kqRel w9 256 vk wr) (fun vk _ _ _ => 256 - (intOf vk).toNat)
                  case atStart => exact ⟨0, by omega, by go_num, Below.refl _ _⟩
                  case round =>
                    obtain ⟨k, hk, rfl, hbk⟩ := hrel
                    have HBk := Lib.hid hbk
                    have hgw : g < w9.heap.size := lt_of_cell Hc9.out
                    have hck := (hbk.cell (p := ⟨g, o + i, none⟩) hgw).trans Hc9.out
                    clear hbk
                    by_cases hk2 : k < 256
                    · have hxa := fun W => str_index sa k (by omega) W
                      have hxc := fun W => str_index sc2 k (by omega) W
                      have hfk := F6.out k hk2
                      generalize (nums sa).getD k 0 = va at *
                      generalize (nums sc2).getD k 0 = vc at *
                      by_cases d1 : ad ≤ pa + k
                      · by_cases d2 : pa + k < ad + s.size
                        · rcases hfk with ⟨q1, _, _⟩ | q
                          · first
                              | (exfalso; omega)
                              | (go_wp2; go_quiet (fail); go_wp2; exact ⟨⟨k + 1, by omega, by go_num, by first | exact HBk.out | exact b_drewN HBk.out _ | exact (b_drewN HBk.out _).drew⟩, by simp [intOf]; omega⟩)
                          · subst q
                            (go_wp2; go_quiet (fail); go_wp2; exact ⟨⟨k + 1, by omega, by go_num, by first | exact HBk.out | exact b_drewN HBk.out _ | exact (b_drewN HBk.out _).drew⟩, by simp [intOf]; omega⟩)
                        · obtain rfl : va = vc := by
                            rcases hfk with ⟨q1, q2, q3⟩ | q
                            · exact absurd q3 d2
                            · exact q
                          (go_wp2; go_quiet (fail); go_wp2; exact ⟨⟨k + 1, by omega, by go_num, by first | exact HBk.out | exact b_drewN HBk.out _ | exact (b_drewN HBk.out _).drew⟩, by simp [intOf]; omega⟩)
                      · obtain rfl : va = vc := by
                          rcases hfk with ⟨q1, q2, q3⟩ | q
                          · exact absurd q2 d1
                          · exact q
                        (go_wp2; go_quiet (fail); go_wp2; exact ⟨⟨k + 1, by omega, by go_num, by first | exact HBk.out | exact b_drewN HBk.out _ | exact (b_drewN HBk.out _).drew⟩, by simp [intOf]; omega⟩)
                    · obtain rfl : k = 256 := by omega
                      go_wp2
                      exact ⟨⟨i + 1, by omega, by go_num, HW9.out.trans (HBk.out.mono HW9.out.size)⟩, by simp [intOf]; omega⟩
                · obtain rfl : i = la := by omega
                  have HKr := Lib.hid (HK4.out.below hbr)
                  clear hbr
                  go_wp2_with (go_at_call 15; (with_reducible refine (alive _).mono ?_); rintro e w8 ⟨rfl, hb8⟩)
                  go_ret
                  exact ⟨rfl, HKr.out.bel.trans (Below.mono (by assumption) HKr.out.bel.size)⟩
end Sp
end Go.Proofs.Ytldmglodjafklaa
