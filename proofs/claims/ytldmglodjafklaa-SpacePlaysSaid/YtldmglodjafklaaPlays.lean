/- The walk of aediculelaw05.SpacePlays. -/
import Derived.Test.YtldmglodjafklaaPlaysA
import Derived.Test.YtldmglodjafklaaRspF
namespace Go.Proofs.Ytldmglodjafklaa
open Go.RowKit
set_option linter.unusedVariables false
namespace Sp
def plRel (w : World) (len : Nat) (vm vr vi : Value) (wr : World) : Prop :=
  ∃ (k sb mb rb : Nat) (A : List Pg) (lv : Value) (R : List Rp), k ≤ len ∧ vi = .int .i64 k ∧ vm = .pointer (some ⟨sb, 0, none⟩) ∧ vr = .pointer (some ⟨rb, 0, none⟩) ∧ PS w wr sb mb A rb lv R
set_option maxRecDepth 100000 in
set_option maxHeartbeats 4000000 in
theorem spacePlays (w : World) (a : Option Addr) (cap : Nat) (xs : List StepR) (ad : Int) (sl : Rd.Sl w 4 stepQ a cap xs) (sz : xs.length * Try.prog.bytesOf 58 < 140737488355328) (wp : (Lit.int .u32 ad).wf = true) :
    Calls Try.prog 5 #[.slice a xs.length cap, .int .u32 ad] w fun e w' => e = .returned (.bool true) ∧ Below w.heap.size w w' := by
  have hb32 : Try.prog.bytesOf 58 = 40 := by kernel_rfl
  rw [hb32] at sz
  obtain ⟨hcells, hok⟩ := sl_steps sl
  have hp := bounds_u32 wp
  have hp1 : ad ≤ 4294967295 := by have := hp.2; omega
  have hp0 := hp.1
  have hlen : xs.length ≤ 9223372036854775807 := by omega
  generalize hZ : (fun i => xs.getD i noStep) = Z at *
  have Hcells : Hid (0 < xs.length → ∃ b off, a = some ⟨b, off, none⟩ ∧ ∀ i, i < xs.length → StepAt w b off i (Z i)) := by rw [← hZ]; exact hcells
  have Hok : Hid (∀ i, i < xs.length → (Z i).ok) := by rw [← hZ]; exact hok
  have Hheavy := Lib.hid (heavy_any a xs.length cap Z w Hcells.out Hok.out hlen)
  clear sl hcells hok hZ hp wp hb32
  generalize xs.length = len at *
  cases hB : heavyB Z len with
  | true =>
    have HB := Lib.hid hB
    clear hB
    go_enter Try.func5, Try.ntmps5
    go_wp2_with fail
    refine Hheavy.out.mono ?_
    rintro e w1 ⟨rfl, rfl⟩
    rw [HB.out]
    go_wp2_with (go_at_call 15; (with_reducible refine (alive _).mono ?_); rintro e w1 ⟨rfl, hb⟩)
    go_ret
    exact ⟨rfl, by assumption⟩
  | false =>
    have HB := Lib.hid hB
    clear hB
    go_enter Try.func5, Try.ntmps5
    go_wp2_with fail
    refine Hheavy.out.mono ?_
    rintro e w1 ⟨rfl, rfl⟩
    rw [HB.out]
    go_wp2_with fail
    refine (new _).mono ?_
    rintro e w1 ⟨rfl, h1, hb1, hz1⟩
    have hst : PS w (w1.alloc (.cells #[.slice none 0 0] 55)) (w.heap.size + 1) w.heap.size [] w1.heap.size (.slice none 0 0) [] := by
      have hs := hb1.size
      refine ⟨⟨h1.below ((Below.refl _ _).alloc (Nat.le_refl _) _) fun k hk => h1.lt hk, rsp_nil (heap_alloc_new w1 _), fun k hk g => ?_⟩, fun k hk => ?_, fun k hk => ?_, hb1.alloc hs _, rfl⟩
      · have := h1.lt hk
        rcases g with rfl | g | ⟨q, hq, _⟩
        · omega
        · cases g
        · simp at hq
      · rcases hk with rfl | rfl | ⟨p, hp, _⟩
        · omega
        · omega
        · simp at hp
      · rcases hk with rfl | g | ⟨q, hq, _⟩
        · exact hs
        · cases g
        · simp at hq
    rw [hz1] at hst
    have Hst := Lib.hid hst
    clear hst h1 hb1
    go_wp2
    go_loopw [5, 6, 7] (fun vm vr vi wr => plRel w len vm vr vi wr) (fun _ _ vi _ => len - (intOf vi).toNat)
    case atStart => exact ⟨0, _, _, _, _, _, _, Nat.zero_le _, by go_num, rfl, rfl, Hst.out⟩
    case round =>
      clear Hst hz1
      clear w1
      obtain ⟨k, sb, mb, rb, A, lv, R, hk, rfl, rfl, rfl, hps⟩ := hrel
      have HPS := Lib.hid hps
      clear hps
      by_cases hk2 : k < len
      · obtain ⟨b, off, rfl, hcl⟩ := Hcells.out (by omega)
        have hsa0 := hcl k hk2
        have hbl : b < w.heap.size := by have := hsa0.dod; unfold World.cell? at this; cases hg : w.heap[b]? with | none => rw [hg] at this; cases this | some _ => exact lt_of_block hg
        have hsa := hsa0.below HPS.out.bel hbl
        have Hx := Lib.hid (Hok.out k hk2)
        have Hsa0 := Lib.hid hsa0
        clear hsa0 hcl
        generalize Z k = x at *
        obtain ⟨d, xa, xn, t⟩ := x
        have s1 := hsa.dod
        have s2 := hsa.addr
        have s3 := hsa.n
        have s4 := hsa.text
        simp only at s1 s2 s3 s4
        clear hsa
        go_wp2_with fail
        refine (does_any HPS.out.pair ⟨d, xa, xn, t⟩ Hx.out).mono ?_
        rintro e w2 ⟨A2, lv2, R2, bb, rfl, hd, heq⟩
        obtain ⟨rfl, heq2⟩ := heq HPS.out.eq
        have HPS2 := Lib.hid (HPS.out.step hd heq2)
        have s5 : w2.cell? ⟨b, off + k * 4, none⟩ = some (.int .i64 d) := (Hsa0.out.below HPS2.out.bel hbl).dod
        clear hd heq heq2 s1 s2 s3 s4 HPS
        by_cases hd7 : d = 7
        · subst hd7
          go_wp2_with fail
          refine (copy HPS2.out.pair.sp).mono ?_
          rintro e w3 ⟨sb3, mb3, C, rfl, hC, hCe, hCf, hCb⟩
          have HPS3 := Lib.hid (HPS2.out.below hCb)
          have HC := Lib.hid (⟨hC, hCe, hCf, hCb⟩ : Spc w3 sb3 mb3 C ∧ cores C = cores A2 ∧ (∀ k, Spc.foot sb3 mb3 C k → w2.heap.size ≤ k) ∧ Below w2.heap.size w2 w3)
          clear hC hCe hCf hCb
          go_wp2_with fail
          refine (Rs.copy HPS3.out.pair.rp).mono ?_
          rintro e w4 ⟨cb, lvc, D, rfl, hD, hDe, hDf, hDb⟩
          have hz2 := HPS2.out.bel.size
          have hz3 := HC.out.2.2.2.size
          have hfin : PS w w4 sb3 mb3 C cb lvc D := by
            have hC4 : Spc w4 sb3 mb3 C := HC.out.1.below hDb fun k hk => HC.out.1.lt hk
            refine ⟨⟨hC4, hD, fun k hk g => ?_⟩, fun k hk => Nat.le_trans hz2 (HC.out.2.2.1 k hk), fun k hk => ?_, HPS3.out.bel.trans (hDb.mono HPS3.out.bel.size), ?_⟩
            · have h1 := hDf k g
              have h2 := HC.out.1.lt hk
              omega
            · have h1 := hDf k hk
              omega
            · rw [HC.out.2.1, HPS2.out.eq]; exact hDe.symm
          have HF := Lib.hid hfin
          clear hfin hD hDe hDf hDb
          go_wp2
          exact ⟨⟨k + 1, _, _, _, _, _, _, by omega, by go_num, rfl, rfl, HF.out⟩, by simp [intOf]; omega⟩
        · have hd8 : (d == 7) = false := by simpa using hd7
          clear hd7
          go_wp2
          exact ⟨⟨k + 1, _, _, _, _, _, _, by omega, by go_num, rfl, rfl, HPS2.out⟩, by simp [intOf]; omega⟩
      · obtain rfl : k = len := by omega
        have H1 := Lib.hid (perm_any HPS.out.pair.sp ad hp0 hp1)
        have H2 := Lib.hid (Rs.perm HPS.out.pair.rp ad hp0 hp1)
        rw [Cor.permV HPS.out.eq, Cor.permB HPS.out.eq] at H1
        generalize permV (rpgs R) ad = pv at *
        generalize permB (rpgs R) ad = pb at *
        go_wp2_with (first | (go_at_call 29; (with_reducible refine H1.out.mono ?_); rintro e w2 ⟨rfl, rfl⟩) | (go_at_call 30; (with_reducible refine H2.out.mono ?_); rintro e w2 ⟨rfl, rfl⟩) | (go_at_call 31; (with_reducible refine (same HPS.out.pair HPS.out.eq).mono ?_); rintro e w2 ⟨rfl, hb2⟩) | (go_at_call 15; (with_reducible refine (alive _).mono ?_); rintro e w3 ⟨rfl, hb3⟩))
        go_ret
        exact ⟨rfl, HPS.out.bel.trans ((below_th hb2 hb3).mono HPS.out.bel.size)⟩
end Sp
end Go.Proofs.Ytldmglodjafklaa
