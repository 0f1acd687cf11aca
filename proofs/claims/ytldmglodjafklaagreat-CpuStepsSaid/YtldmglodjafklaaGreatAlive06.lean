/- The walk of aediculelaw06.alive. -/
import Derived.Test.YtldmglodjafklaaGreatMade06
import Derived.Test.YtldmglodjafklaaGreatCpuW
namespace Go.Proofs.YtldmglodjafklaaGreat
open Go.RowKit Word
set_option linter.unusedSimpArgs false
set_option linter.unusedVariables false
namespace Cp
def code1 : Nat → Ins
  | 0 => ⟨32, 1, 0, 0, 5⟩
  | 1 => ⟨17, 0, 1, 0, 1⟩
  | _ => ⟨50, 0, 0, 0, 9⟩
def code2 : Nat → Ins := fun _ => ⟨41, 15, 0, 0, 1048576⟩
def pgs1 : List Pg := madeA (fun _ => 4) 1 0 (strOfNums (textL code1 3)) 0 ByteArray.empty
def pgs2 : List Pg := madeA (fun _ => 4) 1 0 (strOfNums (textL code2 1)) 0 ByteArray.empty
def regs0 : List Int := regsK (fun _ => 0) (min 0 16)
def told (q : Out × Nat) : Int × Int × Int × Nat × Int × Int × Int × Int := (q.1.kind, q.1.num, q.1.why, q.2, rg q.1.r 1, rg q.1.r 0, rg q.1.r 15, q.1.pc)
theorem run1 : told (run pgs1 regs0 0 9) = (1, 9, 0, 3, 5, 0, 0, 24) := by kernel_rfl
theorem run2 : told (run pgs2 regs0 0 9) = (2, 0, 50, 1, 0, 0, 8, 1048576) := by kernel_rfl
theorem reg_bad (cb : Nat) (n : Int) (hn : n < 0 ∨ 16 ≤ n) (w : World) : Calls Tryz.prog 36 #[.pointer (some ⟨cb, 0, none⟩), .int .i64 n] w fun e w' => e = .returned (.tuple #[.int .u32 0, .int .i64 2]) ∧ w = w' := by
  cases g0 : decide (n < 0) with
  | true =>
    go_enter Tryz.func36, Tryz.ntmps36
    go_wp2
    go_ret2
    exact ⟨rfl, rfl⟩
  | false =>
    have g1 : decide (16 ≤ n) = true := decide_eq_true (by have := of_decide_eq_false g0; omega)
    go_enter Tryz.func36, Tryz.ntmps36
    go_wp2
    go_ret2
    exact ⟨rfl, rfl⟩
def st1 (B1 B2 : Nat) : St := ⟨none, 0, 0, fun _ => 0, 0, some ⟨B1, 0, none⟩, 1, 1, fun _ => 4, 0, some ⟨B2, 0, none⟩, 3, 3, code1, 0, ByteArray.empty⟩
def st2 (B1 B2 : Nat) : St := ⟨none, 0, 0, fun _ => 0, 0, some ⟨B1, 0, none⟩, 1, 1, fun _ => 4, 0, some ⟨B2, 0, none⟩, 1, 1, code2, 0, ByteArray.empty⟩
theorem made1 (W : World) (B1 B2 : Nat) (h1 : W.heap[B1]? = some (.cells #[.int .u8 4] 5 (0, 0))) (h2 : W.heap[B2]? = some (.cells #[.int .u8 32, .int .u8 1, .int .u8 0, .int .u8 0, .int .u32 5, .int .u8 17, .int .u8 0, .int .u8 1, .int .u8 0, .int .u32 1, .int .u8 50, .int .u8 0, .int .u8 0, .int .u8 0, .int .u32 9] 91 (0, 0))) :
    Calls Tryz.prog 27 #[.agg (st1 B1 B2).cells] W (MadePost W (st1 B1 B2)) := by
  refine made W (st1 B1 B2) ⟨fun h => absurd h (by simp [st1]), fun i hi => absurd hi (by simp [st1]), by simp [st1], by simp [st1], by simp [st1], fun _ => ⟨B1, 0, rfl, lt_of_block h1, fun i hi => ?_⟩, fun i hi => ?_, by simp [st1], by simp [st1], by simp [st1], fun _ => ⟨B2, 0, rfl, fun i hi => ?_⟩, fun i hi => ?_, by simp [st1], by simp [st1], by simp [st1], by simp [st1]⟩
  · have : i = 0 := by simp [st1] at hi; exact hi
    subst this
    unfold World.cell?
    rw [h1]
    rfl
  · exact ⟨by simp [st1], by simp [st1]⟩
  · have : i = 0 ∨ i = 1 ∨ i = 2 := by simp only [st1] at hi; omega
    rcases this with rfl | rfl | rfl
    all_goals
      constructor <;> unfold World.cell? <;> rw [h2] <;> rfl
  · have : i = 0 ∨ i = 1 ∨ i = 2 := by simp only [st1] at hi; omega
    rcases this with rfl | rfl | rfl
    all_goals
      constructor <;> simp [st1, code1]
theorem made2 (W : World) (B1 B2 : Nat) (h1 : W.heap[B1]? = some (.cells #[.int .u8 4] 5 (0, 0))) (h2 : W.heap[B2]? = some (.cells #[.int .u8 41, .int .u8 15, .int .u8 0, .int .u8 0, .int .u32 1048576] 91 (0, 0))) :
    Calls Tryz.prog 27 #[.agg (st2 B1 B2).cells] W (MadePost W (st2 B1 B2)) := by
  refine made W (st2 B1 B2) ⟨fun h => absurd h (by simp [st2]), fun i hi => absurd hi (by simp [st2]), by simp [st2], by simp [st2], by simp [st2], fun _ => ⟨B1, 0, rfl, lt_of_block h1, fun i hi => ?_⟩, fun i hi => ?_, by simp [st2], by simp [st2], by simp [st2], fun _ => ⟨B2, 0, rfl, fun i hi => ?_⟩, fun i hi => ?_, by simp [st2], by simp [st2], by simp [st2], by simp [st2]⟩
  · have : i = 0 := by simp [st2] at hi; exact hi
    subst this
    unfold World.cell?
    rw [h1]
    rfl
  · exact ⟨by simp [st2], by simp [st2]⟩
  · have : i = 0 := by simp only [st2] at hi; omega
    subst this
    constructor <;> unfold World.cell? <;> rw [h2] <;> rfl
  · constructor <;> simp [st2, code2]
theorem told_like {A B : List Pg} (h : cores A = cores B) (r : List Int) (pc : Int) (n : Nat) : told (run A r pc n) = told (run B r pc n) := by
  obtain ⟨h1, h2⟩ := like_run n h r pc
  unfold told
  rw [h1.kind, h1.num, h1.why, h1.r, h1.pc, h2]
/-- What a Run of one of the examples leaves. -/
structure Ran (w : World) (cb sb mb : Nat) (A : List Pg) (q : Int × Int × Int × Nat × Int × Int × Int × Int) (e : Ending) (w' : World) : Prop where
  e : e = .returned (.tuple #[stopV q.1 q.2.1 q.2.2.1, .int .i64 q.2.2.2.1])
  cpu : ∃ r, Cpu 116 w' cb r q.2.2.2.2.2.2.2 ∧ rg r 1 = q.2.2.2.2.1 ∧ rg r 0 = q.2.2.2.2.2.1 ∧ rg r 15 = q.2.2.2.2.2.2.1
  mod : Mod (fun k => k = cb ∨ Sp.pgBlk A k) w w'
theorem ran {w : World} {cb sb mb : Nat} {A B : List Pg} {r : List Int} {pc : Int} (hc : Cpu 116 w cb r pc) (hs : Spc w sb mb A) (hn : ¬ Spc.foot sb mb A cb) (h : cores A = cores B) :
    Calls Tryz.prog 34 #[.pointer (some ⟨cb, 0, none⟩), .pointer (some ⟨sb, 0, none⟩), .int .i64 9] w (Ran w cb sb mb A (told (run B r pc 9))) := by
  refine (run_any hc hs hn 9 (by omega)).mono fun e w' ⟨g1, g2, g3, g4⟩ => ?_
  have ht := told_like h r pc 9
  rw [← ht]
  exact ⟨g1, ⟨_, g2, rfl, rfl, rfl⟩, g4⟩
set_option maxRecDepth 100000 in
set_option maxHeartbeats 2000000 in
theorem alive06 (w : World) : Calls Tryz.prog 26 #[] w fun e w' => e = .returned (.bool true) ∧ Below w.heap.size w w' := by
  have heq1 : ∀ w : World, (binOp .eql 29 (.agg #[.int .u8 1, .int .u32 9, .int .i64 0]) (.agg #[.int .u8 1, .int .u32 9, .int .i64 0])).run Tryz.prog w = .ok (.bool true) w := fun w => by kernel_rfl
  have heq2 : ∀ w : World, (binOp .eql 29 (.agg #[.int .u8 2, .int .u32 0, .int .i64 50]) (.agg #[.int .u8 2, .int .u32 0, .int .i64 50])).run Tryz.prog w = .ok (.bool true) w := fun w => by kernel_rfl
  go_enter Tryz.func26, Tryz.ntmps26
  go_wp2_with fail
  generalize hW : (w.alloc (.cells #[.int .u8 4] 5)).alloc (.cells #[.int .u8 32, .int .u8 1, .int .u8 0, .int .u8 0, .int .u32 5, .int .u8 17, .int .u8 0, .int .u8 1, .int .u8 0, .int .u32 1, .int .u8 50, .int .u8 0, .int .u8 0, .int .u8 0, .int .u32 9] 91) = W at *
  have hb : Below w.heap.size w W := by rw [← hW]; exact ((Below.refl _ _).alloc (Nat.le_refl _) _).alloc (by simp) _
  have k1 : W.heap[w.heap.size]? = some (.cells #[.int .u8 4] 5 (0, 0)) := by rw [← hW, Below.heap_alloc _ _ _ (by simp)]; exact heap_alloc_new w _
  have k2 : W.heap[w.heap.size + 1]? = some (.cells #[.int .u8 32, .int .u8 1, .int .u8 0, .int .u8 0, .int .u32 5, .int .u8 17, .int .u8 0, .int .u8 1, .int .u8 0, .int .u32 1, .int .u8 50, .int .u8 0, .int .u8 0, .int .u8 0, .int .u32 9] 91 (0, 0)) := by
    rw [← hW]
    have h := heap_alloc_new (w.alloc (.cells #[.int .u8 4] 5)) (.cells #[.int .u8 32, .int .u8 1, .int .u8 0, .int .u8 0, .int .u32 5, .int .u8 17, .int .u8 0, .int .u8 1, .int .u8 0, .int .u32 1, .int .u8 50, .int .u8 0, .int .u8 0, .int .u8 0, .int .u32 9] 91)
    rwa [show (w.alloc (.cells #[.int .u8 4] 5)).heap.size = w.heap.size + 1 by simp] at h
  refine (made1 W _ _ k1 k2).mono ?_
  rintro e w1 ⟨cb, sb, mb, A, db, rb, lv, R, rfl, hd, _, hk⟩
  have HB1 := Lib.hid (hb.trans (hd.bel.mono hb.size))
  have HC1 := Lib.hid hd.cp
  have HS1 := Lib.hid hd.pair.sp
  have HN1 := Lib.hid hd.ca
  have HF1 : Hid (w.heap.size ≤ cb ∧ ∀ k, Sp.pgBlk A k → w.heap.size ≤ k) := Lib.hid ⟨Nat.le_trans hb.size hd.c0, fun k hk => Nat.le_trans hb.size (hd.a0 k (.inr (.inr hk)))⟩
  have HK1 := Lib.hid hk
  clear hd hk k1 k2 hb hW
  go_wp2_with fail
  generalize hW2 : (w1.alloc (.cells #[.int .u8 4] 5)).alloc (.cells #[.int .u8 41, .int .u8 15, .int .u8 0, .int .u8 0, .int .u32 1048576] 91) = W2 at *
  have hb2 : Below w1.heap.size w1 W2 := by rw [← hW2]; exact ((Below.refl _ _).alloc (Nat.le_refl _) _).alloc (by simp) _
  have k1 : W2.heap[w1.heap.size]? = some (.cells #[.int .u8 4] 5 (0, 0)) := by rw [← hW2, Below.heap_alloc _ _ _ (by simp)]; exact heap_alloc_new w1 _
  have k2 : W2.heap[w1.heap.size + 1]? = some (.cells #[.int .u8 41, .int .u8 15, .int .u8 0, .int .u8 0, .int .u32 1048576] 91 (0, 0)) := by
    rw [← hW2]
    have h := heap_alloc_new (w1.alloc (.cells #[.int .u8 4] 5)) (.cells #[.int .u8 41, .int .u8 15, .int .u8 0, .int .u8 0, .int .u32 1048576] 91)
    rwa [show (w1.alloc (.cells #[.int .u8 4] 5)).heap.size = w1.heap.size + 1 by simp] at h
  refine (made2 W2 _ _ k1 k2).mono ?_
  rintro e w2 ⟨cb2, sb2, mb2, A2, db2, rb2, lv2, R2, rfl, hd2, _, hk2⟩
  have hb12 : Below w1.heap.size w1 w2 := hb2.trans (hd2.bel.mono hb2.size)
  have HB2 := Lib.hid (HB1.out.trans (hb12.mono HB1.out.size))
  have HC := Lib.hid (HC1.out.below hb12)
  have HS := Lib.hid (HS1.out.below hb12 fun _ hk => HS1.out.lt hk)
  have HC2 := Lib.hid hd2.cp
  have HS2 := Lib.hid hd2.pair.sp
  have HN2 := Lib.hid hd2.ca
  have HK2 := Lib.hid hk2
  have HLt : Hid (cb < w1.heap.size ∧ (∀ k, Sp.pgBlk A k → k < w1.heap.size) ∧ w1.heap.size ≤ cb2 ∧ ∀ k, Spc.foot sb2 mb2 A2 k → w1.heap.size ≤ k) := Lib.hid ⟨HC1.out.lt, fun k hk => HS1.out.lt (.inr (.inr hk)), Nat.le_trans hb2.size hd2.c0, fun k hk => Nat.le_trans hb2.size (hd2.a0 k hk)⟩
  have HF : Hid (w.heap.size ≤ w1.heap.size) := Lib.hid HB1.out.size
  clear hd2 hk2 k1 k2 hb2 hW2 hb12 HC1 HS1 HB1
  have hr1 : Calls Tryz.prog 34 #[.pointer (some ⟨cb, 0, none⟩), .pointer (some ⟨sb, 0, none⟩), .int .i64 9] w2 (Ran w2 cb sb mb A (1, 9, 0, 3, 5, 0, 0, 24)) := by
    have h := ran (B := pgs1) HC.out HS.out HN1.out HK1.out
    have e : told (run pgs1 (st1 w.heap.size (w.heap.size + 1)).regs (st1 w.heap.size (w.heap.size + 1)).pc 9) = (1, 9, 0, 3, 5, 0, 0, 24) := run1
    rw [e] at h
    exact h
  have HR1 := Lib.hid hr1
  clear hr1
  go_wp2_with fail
  refine HR1.out.mono ?_
  rintro e w3 ⟨rfl, ⟨r3, hc3, r31, r30, _⟩, hm3⟩
  simp only at hc3 r31 r30
  have hmb : Below w.heap.size w w3 := hm3.below HB2.out HB2.out.size (by rintro i _ (g | g); exact g ▸ HF1.out.1; exact HF1.out.2 i g)
  have hz3 := hm3.size
  have hz2 := HC2.out.lt
  have HB3 := Lib.hid hmb
  have HC3 := Lib.hid hc3
  have HC23 := Lib.hid (HC2.out.keep hm3 (by rintro (g | g); have := HLt.out.1; have := HLt.out.2.2.1; omega; have := HLt.out.2.1 _ g; have := HLt.out.2.2.1; omega))
  have HS23 := Lib.hid (HS2.out.keep hm3 (fun k hk => by have h1 := HLt.out.2.2.2 k hk; rintro (g | g); have := HLt.out.1; omega; have := HLt.out.2.1 _ g; omega))
  have HP2 : Hid (∀ k, Sp.pgBlk A2 k → k < w3.heap.size) := Lib.hid fun k hk => Nat.lt_of_lt_of_le (HS2.out.lt (.inr (.inr hk))) hz3
  have HBx : Hid ((w3.alloc (.cells #[.int .u8 1, .int .u32 9, .int .i64 0] 29)).heap[w3.heap.size]? = some (.cells #[.int .u8 1, .int .u32 9, .int .i64 0] 29 (0, 0))) := Lib.hid (heap_alloc_new w3 _)
  clear hc3 hm3 hmb HR1 HC2 HS2 HC HS HK1 HB2
  unfold stopV
  have g1 : Calls Tryz.prog 36 #[.pointer (some ⟨cb, 0, none⟩), .int .i64 1] (w3.alloc (.cells #[.int .u8 1, .int .u32 9, .int .i64 0] 29)) fun e w' => e = .returned (.tuple #[.int .u32 5, .int .i64 0]) ∧ (w3.alloc (.cells #[.int .u8 1, .int .u32 9, .int .i64 0] 29)) = w' := by
    have h := reg_ok (HC3.out.below ((Below.refl _ _).alloc (Nat.le_refl _) (.cells #[.int .u8 1, .int .u32 9, .int .i64 0] 29))) 1 (by omega)
    rw [show rg r3 ((1 : Nat) : Int) = 5 from r31] at h
    exact h
  have g0 : Calls Tryz.prog 36 #[.pointer (some ⟨cb, 0, none⟩), .int .i64 0] (w3.alloc (.cells #[.int .u8 1, .int .u32 9, .int .i64 0] 29)) fun e w' => e = .returned (.tuple #[.int .u32 0, .int .i64 0]) ∧ (w3.alloc (.cells #[.int .u8 1, .int .u32 9, .int .i64 0] 29)) = w' := by
    have h := reg_ok (HC3.out.below ((Below.refl _ _).alloc (Nat.le_refl _) (.cells #[.int .u8 1, .int .u32 9, .int .i64 0] 29))) 0 (by omega)
    rw [show rg r3 ((0 : Nat) : Int) = 0 from r30] at h
    exact h
  have hr2 : Calls Tryz.prog 34 #[.pointer (some ⟨cb2, 0, none⟩), .pointer (some ⟨sb2, 0, none⟩), .int .i64 9] (w3.alloc (.cells #[.int .u8 1, .int .u32 9, .int .i64 0] 29)) (Ran (w3.alloc (.cells #[.int .u8 1, .int .u32 9, .int .i64 0] 29)) cb2 sb2 mb2 A2 (2, 0, 50, 1, 0, 0, 8, 1048576)) := by
    have h := ran (B := pgs2) (HC23.out.below ((Below.refl _ _).alloc (Nat.le_refl _) (.cells #[.int .u8 1, .int .u32 9, .int .i64 0] 29))) (HS23.out.below ((Below.refl _ _).alloc (Nat.le_refl _) (.cells #[.int .u8 1, .int .u32 9, .int .i64 0] 29)) fun _ hk => HS23.out.lt hk) HN2.out HK2.out
    have e : told (run pgs2 (st2 w1.heap.size (w1.heap.size + 1)).regs (st2 w1.heap.size (w1.heap.size + 1)).pc 9) = (2, 0, 50, 1, 0, 0, 8, 1048576) := run2
    rw [e] at h
    exact h
  have HR2 := Lib.hid hr2
  have HG1 := Lib.hid g1
  have HG0 := Lib.hid g0
  clear hr2 g1 g0
  go_wp2_with (go_at_call 36; first | ((with_reducible refine HG1.out.mono ?_); rintro e w4 ⟨rfl, rfl⟩) | ((with_reducible refine HG0.out.mono ?_); rintro e w4 ⟨rfl, rfl⟩))
  refine HR2.out.mono ?_
  rintro e w4 ⟨rfl, ⟨r4, hc4, _, _, r415⟩, hm4⟩
  simp only at hc4 r415
  have hz4 := hm4.size
  have hz5 : w3.heap.size < w4.heap.size := by simp at hz4; omega
  have hb4 : Below w.heap.size w w4 := hm4.below (HB3.out.alloc HB3.out.size _) (Nat.le_trans HB3.out.size (by simp)) (by have h1 := HLt.out.2.2.1; have h2 := HF.out; rintro i _ (g | g); omega; have := HLt.out.2.2.2 i (.inr (.inr g)); omega)
  have hc14 : Cpu 116 w4 cb r3 24 := (HC3.out.below ((Below.refl _ _).alloc (Nat.le_refl _) (.cells #[.int .u8 1, .int .u32 9, .int .i64 0] 29))).keep hm4 (by have h1 := HLt.out.1; have h2 := HLt.out.2.2.1; rintro (g | g); omega; have := HLt.out.2.2.2 cb (.inr (.inr g)); omega)
  have hbx : w4.heap[w3.heap.size]? = some (.cells #[.int .u8 1, .int .u32 9, .int .i64 0] 29 (0, 0)) := (hm4.block _ (by simp) (by rintro (g | g); have := HC23.out.lt; omega; have := HP2.out _ g; omega)).trans HBx.out
  have hb5 : Below w4.heap.size w4 (w4.alloc (.cells #[.int .u8 2, .int .u32 0, .int .i64 50] 29)) := (Below.refl _ _).alloc (Nat.le_refl _) _
  have HB5 := Lib.hid (hb4.trans (hb5.mono hb4.size))
  have g15 : Calls Tryz.prog 36 #[.pointer (some ⟨cb2, 0, none⟩), .int .i64 15] (w4.alloc (.cells #[.int .u8 2, .int .u32 0, .int .i64 50] 29)) fun e w' => e = .returned (.tuple #[.int .u32 8, .int .i64 0]) ∧ (w4.alloc (.cells #[.int .u8 2, .int .u32 0, .int .i64 50] 29)) = w' := by
    have h := reg_ok (hc4.below hb5) 15 (by omega)
    rw [show rg r4 ((15 : Nat) : Int) = 8 from r415] at h
    exact h
  have HG15 := Lib.hid g15
  have HP1 := Lib.hid (pc_ok (hc14.below hb5))
  have HP24 := Lib.hid (pc_ok (hc4.below hb5))
  obtain ⟨v0, v1, v2⟩ := cells3 ((hb5.block _ hz5).trans hbx)
  clear g15 hc4 hc14 hbx hb4 hm4 hb5 HR2 HG1 HG0 HC3 HC23 HS23 HB3 HBx
  unfold stopV
  go_wp2_with (first | (go_at_call 36; first | ((with_reducible refine HG15.out.mono ?_); rintro e w6 ⟨rfl, rfl⟩) | ((with_reducible refine (reg_bad cb2 16 (by omega) _).mono ?_); rintro e w6 ⟨rfl, rfl⟩)) | (go_at_call 41; first | ((with_reducible refine HP1.out.mono ?_); rintro e w6 ⟨rfl, rfl⟩) | ((with_reducible refine HP24.out.mono ?_); rintro e w6 ⟨rfl, rfl⟩)))
  go_ret
  exact ⟨rfl, HB5.out⟩
end Cp
end Go.Proofs.YtldmglodjafklaaGreat
