/- Alive21: Alive21, EnvNil in one text. -/
import Derived.Test.YtkbhokmnbpnlbaaGreatMade21
import Derived.Test.YtkbhokmnbpnlbaaGreatEnvX
import Derived.Laws.StructEq
/- The walk of aediculelaw21.alive. -/
namespace Go.Proofs.YtkbhokmnbpnlbaaGreat
open Go.RowKit Word
set_option linter.unusedVariables false
set_option linter.unusedSimpArgs false
/-- A block that no act on the environment turns. -/
structure Kept (w : World) (a : EAt) (E : En) (b : Nat) (o : Obj) : Prop where
  blk : w.heap[b]? = some o
  out : ¬ a.foot E.A b
namespace Kept
variable {w w' : World} {a a' : EAt} {E E' : En} {b : Nat} {o : Obj}
theorem step (h : Kept w a E b o) (s : EStep w w' a E a' E') : Kept w' a' E' b o :=
  ⟨(s.mod.block _ (lt_of_block h.blk) h.out).trans h.blk, fun g => (s.foot _ g).elim h.out fun q => by have := lt_of_block h.blk; omega⟩
theorem below (h : Kept w a E b o) (hb : Below w.heap.size w w') : Kept w' a E b o := ⟨(hb.block _ (lt_of_block h.blk)).trans h.blk, h.out⟩
theorem newC (h : Env w a E) (c : Array Value) (t : TypeId) : Kept (w.alloc (.cells c t)) a E w.heap.size (.cells c t (0, 0)) := ⟨heap_alloc_new w _, fun g => Nat.lt_irrefl _ (h.lt _ g)⟩
theorem cell {c : Array Value} {t : TypeId} (h : Kept w a E b (.cells c t (0, 0))) (i : Nat) (v : Value) (hi : c[i]? = some v) : w.cell? ⟨b, i, none⟩ = some v := by
  unfold World.cell?
  rw [h.blk]
  exact hi
end Kept
namespace Cp
theorem eqStop (k n y : Int) (w : World) : (binOp .eql 67 (.agg #[.int .u8 k, .int .u32 n, .int .i64 y]) (.agg #[.int .u8 k, .int .u32 n, .int .i64 y])).run Tryz.prog w = .ok (.bool true) w := by
  simp [go_sem, Tryz.underlying67]
theorem eqState (k n y : Int) (w : World) : (binOp .eql 75 (.agg #[.int .u8 k, .int .u32 n, .int .i64 y]) (.agg #[.int .u8 k, .int .u32 n, .int .i64 y])).run Tryz.prog w = .ok (.bool true) w := by
  simp [go_sem, Tryz.underlying75]
def code21 : Nat → Ins := fun _ => ⟨50, 0, 0, 0, 1⟩
def perm21 : Nat → Int := fun i => if i = 0 then 8 else 4
def st21 (B1 B2 : Nat) : St := ⟨none, 0, 0, fun _ => 0, 256, some ⟨B1, 0, none⟩, 2, 2, perm21, 256, some ⟨B2, 0, none⟩, 1, 1, code21, 0, ByteArray.empty⟩
def en21 : En := ⟨1, 2, 0, 0, ByteArray.empty, [], madeA perm21 2 256 (strOfNums (textL code21 1)) 0 ByteArray.empty, regsK (fun _ => 0) (min 0 16), 256⟩
def en21b : En := en21.step.page 512 0
def en21c : En := (en21b.drop 512).exit 7
theorem e21 : (en21.stop, en21.redE, en21.step.pageE 512, en21b.pageE 512, en21b.pageE 0, en21b.own, en21b.dropE 256, en21b.dropE 512) = ((1, 1, 0), 0, 0, 9, 2, [512], 3, 0) := by kernel_rfl
theorem e21c : ((en21b.drop 512).redE, en21c.kind, en21c.code, en21c.why, en21c.stop, en21c.redE) = (0, 3, 7, 0, (0, 0, 0), 3) := by kernel_rfl
theorem made21a (W : World) (B1 B2 : Nat) (h1 : W.heap[B1]? = some (.cells #[.int .u8 8, .int .u8 4] 5 (0, 0))) (h2 : W.heap[B2]? = some (.cells #[.int .u8 50, .int .u8 0, .int .u8 0, .int .u8 0, .int .u32 1] 144 (0, 0))) :
    Calls Tryz.prog 21 #[.int .i64 1, .agg (st21 B1 B2).cells] W fun e w' => ∃ a E b R F, e = .returned (.tuple #[.pointer (some ⟨a.eb, 0, none⟩), .pointer (some ⟨b.eb, 0, none⟩), .bool true]) ∧ EPair W w' a E b R F ∧ En.Like E en21 := by
  refine (made21 W 1 (st21 B1 B2) ⟨fun h => absurd h (by simp [st21]), fun i hi => absurd hi (by simp [st21]), by simp [st21], by simp [st21], by simp [st21], fun _ => ⟨B1, 0, rfl, lt_of_block h1, fun i hi => ?_⟩, fun i hi => ?_, by simp [st21], by simp [st21], by simp [st21], fun _ => ⟨B2, 0, rfl, fun i hi => ?_⟩, fun i hi => ?_, by simp [st21], by simp [st21], by simp [st21], Nat.zero_le _⟩).mono ?_
  · have : i = 0 ∨ i = 1 := by simp only [st21] at hi; omega
    unfold World.cell?
    rw [h1]
    rcases this with rfl | rfl <;> rfl
  · have : i = 0 ∨ i = 1 := by simp only [st21] at hi; omega
    rcases this with rfl | rfl <;> exact ⟨by simp [st21, perm21], by simp [st21, perm21]⟩
  · have : i = 0 := by simp only [st21] at hi; omega
    subst this
    constructor <;> unfold World.cell? <;> rw [h2] <;> rfl
  · have : i = 0 := by simp only [st21] at hi; omega
    subst this
    constructor <;> simp [st21, code21]
  · intro e w' h
    unfold Made21 at h
    rw [if_pos (by omega)] at h
    obtain ⟨a, E, b, R, F, h1, h2, _, h3⟩ := h
    exact ⟨a, E, b, R, F, h1, h2, h3⟩
theorem d21a : en21b.page 512 0 = en21b := by kernel_rfl
theorem d21b : en21b.page 0 0 = en21b := by kernel_rfl
theorem d21c : en21b.drop 256 = en21b := by kernel_rfl
theorem d21d : en21c.step.redE = 3 := by kernel_rfl
set_option maxRecDepth 100000 in
set_option maxHeartbeats 8000000 in
theorem alive21 (w : World) : Calls Tryz.prog 20 #[] w fun e w' => e = .returned (.bool true) ∧ Below w.heap.size w w' := by
  obtain ⟨p1, p2, p3, p4, p5, p6, p7, p8⟩ := (by have := e21; simpa only [Prod.mk.injEq] using this : _ ∧ _ ∧ _ ∧ _ ∧ _ ∧ _ ∧ _ ∧ _)
  obtain ⟨q1, q2, q3, q4, q5, q6⟩ := (by have := e21c; simpa only [Prod.mk.injEq] using this : _ ∧ _ ∧ _ ∧ _ ∧ _ ∧ _)
  have PP := Lib.hid (⟨p1, p2, p3, p4, p5, p6, p7, p8⟩ : _ ∧ _ ∧ _ ∧ _ ∧ _ ∧ _ ∧ _ ∧ _)
  have QQ := Lib.hid (⟨q1, q2, q3, q4, q5, q6⟩ : _ ∧ _ ∧ _ ∧ _ ∧ _ ∧ _)
  clear p1 p2 p3 p4 p5 p6 p7 p8 q1 q2 q3 q4 q5 q6
  have hM : Calls Tryz.prog 21 #[.int .i64 1, .agg (st21 w.heap.size (w.heap.size + 1)).cells] ((w.alloc (.cells #[.int .u8 8, .int .u8 4] 5)).alloc (.cells #[.int .u8 50, .int .u8 0, .int .u8 0, .int .u8 0, .int .u32 1] 144)) fun e w' => ∃ a E b R F, e = .returned (.tuple #[.pointer (some ⟨a.eb, 0, none⟩), .pointer (some ⟨b.eb, 0, none⟩), .bool true]) ∧ EPair w w' a E b R F ∧ En.Like E en21 := by
    have hb2 : Below w.heap.size w ((w.alloc (.cells #[.int .u8 8, .int .u8 4] 5)).alloc (.cells #[.int .u8 50, .int .u8 0, .int .u8 0, .int .u8 0, .int .u32 1] 144)) := ((Below.refl _ _).alloc (Nat.le_refl _) _).alloc (by simp) _
    have k1 : ((w.alloc (.cells #[.int .u8 8, .int .u8 4] 5)).alloc (.cells #[.int .u8 50, .int .u8 0, .int .u8 0, .int .u8 0, .int .u32 1] 144)).heap[w.heap.size]? = some (.cells #[.int .u8 8, .int .u8 4] 5 (0, 0)) := by rw [Below.heap_alloc _ _ _ (by simp)]; exact heap_alloc_new w _
    have k2 : ((w.alloc (.cells #[.int .u8 8, .int .u8 4] 5)).alloc (.cells #[.int .u8 50, .int .u8 0, .int .u8 0, .int .u8 0, .int .u32 1] 144)).heap[w.heap.size + 1]? = some (.cells #[.int .u8 50, .int .u8 0, .int .u8 0, .int .u8 0, .int .u32 1] 144 (0, 0)) := by
      have h := heap_alloc_new (w.alloc (.cells #[.int .u8 8, .int .u8 4] 5)) (.cells #[.int .u8 50, .int .u8 0, .int .u8 0, .int .u8 0, .int .u32 1] 144)
      rwa [show (w.alloc (.cells #[.int .u8 8, .int .u8 4] 5)).heap.size = w.heap.size + 1 by simp] at h
    refine (made21a _ _ _ k1 k2).mono ?_
    rintro e w' ⟨a, E, b, R, F, rfl, h1, h2⟩
    exact ⟨a, E, b, R, F, rfl, h1.weaken hb2, h2⟩
  have HM := Lib.hid hM
  clear hM
  unfold st21 St.cells at HM
  go_enter Tryz.func20, Tryz.ntmps20
  go_wp2_with fail
  refine HM.out.mono ?_
  rintro e w1 ⟨a, E, b, R, F, rfl, hp, hl⟩
  have HP1 := Lib.hid hp
  have HL1 := Lib.hid hl
  clear hp hl HM
  have hs := Ev.step HP1.out.env
  rw [HL1.out.stop.trans PP.out.1, HL1.out.redE.trans PP.out.2.1] at hs
  have HS := Lib.hid hs
  clear hs
  go_wp2_with fail
  refine HS.out.mono ?_
  rintro e w2 ⟨rfl, hs2⟩
  have hp2 := HP1.out.left hs2
  have hb2 : Below w2.heap.size w2 (w2.alloc (.cells #[.int .u8 1, .int .u32 1, .int .i64 0] 67)) := (Below.refl _ _).alloc (Nat.le_refl _) _
  have HP2 := Lib.hid (hp2.below hb2)
  have HK2 := Lib.hid (Kept.newC hp2.env #[.int .u8 1, .int .u32 1, .int .i64 0] 67)
  have HL2 := Lib.hid HL1.out.step
  clear hs2 hp2 hb2 HP1 HL1 HS
  have hg := Ev.page HP2.out.env 512 (by omega) (by omega)
  rw [HL2.out.pageE 512, PP.out.2.2.1] at hg
  have HG := Lib.hid hg
  clear hg
  go_wp2_with fail
  refine HG.out.mono ?_
  rintro e w3 ⟨blk3, lv3, rfl, hs⟩
  have HP3 := Lib.hid (HP2.out.left hs)
  have HK3 := Lib.hid (HK2.out.step hs)
  have HL3 : Hid (En.Like _ en21b) := Lib.hid (HL2.out.page 512 blk3 0)
  clear hs HG HP2 HK2 HL2
  have hg := Ev.page HP3.out.env 512 (by omega) (by omega)
  rw [HL3.out.pageE 512, PP.out.2.2.2.1] at hg
  have HG := Lib.hid hg
  clear hg
  go_wp2_with fail
  refine HG.out.mono ?_
  rintro e w4 ⟨blk4, lv4, rfl, hs⟩
  have HP4 := Lib.hid (HP3.out.left hs)
  have HK4 := Lib.hid (HK3.out.step hs)
  have HL4 := Lib.hid ((by have := HL3.out.page 512 blk4 0; rw [d21a] at this; exact this : En.Like _ en21b))
  clear hs HG HP3 HK3 HL3
  have hg := Ev.page HP4.out.env 0 (by omega) (by omega)
  rw [HL4.out.pageE 0, PP.out.2.2.2.2.1] at hg
  have HG := Lib.hid hg
  clear hg
  go_wp2_with fail
  refine HG.out.mono ?_
  rintro e w5 ⟨blk5, lv5, rfl, hs⟩
  have HP5 := Lib.hid (HP4.out.left hs)
  have HK5 := Lib.hid (HK4.out.step hs)
  have HL5 := Lib.hid ((by have := HL4.out.page 0 blk5 0; rw [d21b] at this; exact this : En.Like _ en21b))
  clear hs HG HP4 HK4 HL4
  have hg := Ev.own HP5.out.env
  rw [HL5.out.own.trans PP.out.2.2.2.2.2.1] at hg
  have HG := Lib.hid hg
  clear hg
  go_wp2_with fail
  refine HG.out.mono ?_
  rintro e w6 ⟨v, rfl, hl6, hv6, hb6⟩
  have HP6 := Lib.hid (HP5.out.below hb6)
  have HK6 := Lib.hid (HK5.out.below hb6)
  have hv : ∃ g off cap cur, v = .slice (some ⟨g, off, none⟩) 1 cap ∧ Kept w6 { a with lv := lv5 } (((E.step.page 512 blk3).page 512 blk4).page 0 blk5) g (.cells cur 22 (0, 0)) ∧ cur[off]? = some (.int .u32 512) := by
    rcases hl6.2 with ⟨h0, _⟩ | ⟨g, off, cap, cur, rfl, hg, _, _, _, hc⟩
    · exact absurd h0 (by decide)
    · refine ⟨g, off, cap, cur, rfl, ⟨hg, fun q => ?_⟩, by have := hc 0 (by decide); simpa using this⟩
      have h1 := hv6 g rfl
      have h2 := HP5.out.env.lt _ q
      omega
  obtain ⟨g, off, cap, cur, rfl, hkv, hcur⟩ := hv
  have HV6 := Lib.hid hkv
  have HCu := Lib.hid hcur
  clear hl6 hv6 hb6 hkv hcur HG HP5 HK5
  have hg := Ev.drop HP6.out.env 256 (by omega) (by omega)
  rw [HL5.out.dropE 256, PP.out.2.2.2.2.2.2.1] at hg
  have HG := Lib.hid hg
  clear hg
  go_wp2_with fail
  refine HG.out.mono ?_
  rintro e w7 ⟨lv, rfl, hs⟩
  have HP7 := Lib.hid (HP6.out.left hs)
  have HK7 := Lib.hid (HK6.out.step hs)
  have HV7 := Lib.hid (HV6.out.step hs)
  have HL7 := Lib.hid ((by have := HL5.out.drop 256; rw [d21c] at this; exact this : En.Like _ en21b))
  clear hs HG HP6 HK6 HL5 HV6
  have hg := Ev.drop HP7.out.env 512 (by omega) (by omega)
  rw [HL7.out.dropE 512, PP.out.2.2.2.2.2.2.2] at hg
  have HG := Lib.hid hg
  clear hg
  go_wp2_with fail
  refine HG.out.mono ?_
  rintro e w8 ⟨lv, rfl, hs⟩
  have HP8 := Lib.hid (HP7.out.left hs)
  have HK8 := Lib.hid (HK7.out.step hs)
  have HV8 := Lib.hid (HV7.out.step hs)
  have HL8 := Lib.hid (HL7.out.drop 512)
  clear hs HG HP7 HK7 HL7 HV7
  have hg := Ev.exit HP8.out.env 7
  rw [HL8.out.redE.trans QQ.out.1] at hg
  have HG := Lib.hid hg
  clear hg
  go_wp2_with fail
  refine HG.out.mono ?_
  rintro e w9 ⟨rfl, hs⟩
  have HP9 := Lib.hid (HP8.out.left hs)
  have HK9 := Lib.hid (HK8.out.step hs)
  have HV9 := Lib.hid (HV8.out.step hs)
  have HL9 : Hid (En.Like _ en21c) := Lib.hid (HL8.out.exit 7)
  clear hs HG HP8 HK8 HL8 HV8
  have hg := Ev.state HP9.out.env
  rw [HL9.out.kind.trans QQ.out.2.1, HL9.out.code.trans QQ.out.2.2.1, HL9.out.why.trans QQ.out.2.2.2.1] at hg
  have HG := Lib.hid hg
  clear hg
  go_wp2_with fail
  refine HG.out.mono ?_
  rintro e w10 ⟨rfl, hb⟩
  have hp10 := HP9.out.below hb
  have hb2 : Below w10.heap.size w10 (w10.alloc (.cells #[.int .u8 3, .int .u32 7, .int .i64 0] 75)) := (Below.refl _ _).alloc (Nat.le_refl _) _
  have HP10 := Lib.hid (hp10.below hb2)
  have HK10 := Lib.hid ((HK9.out.below hb).below hb2)
  have HV10 := Lib.hid ((HV9.out.below hb).below hb2)
  have HT10 := Lib.hid (Kept.newC hp10.env #[.int .u8 3, .int .u32 7, .int .i64 0] 75)
  clear hb hb2 hp10 HP9 HK9 HV9 HG
  have hg := Ev.step HP10.out.env
  rw [HL9.out.stop.trans QQ.out.2.2.2.2.1, HL9.out.redE.trans QQ.out.2.2.2.2.2] at hg
  have HG := Lib.hid hg
  clear hg
  go_wp2_with fail
  refine HG.out.mono ?_
  rintro e w11 ⟨rfl, hs⟩
  have hp11 := HP10.out.left hs
  have hb2 : Below w11.heap.size w11 (w11.alloc (.cells #[.int .u8 0, .int .u32 0, .int .i64 0] 67)) := (Below.refl _ _).alloc (Nat.le_refl _) _
  have HP11 := Lib.hid (hp11.below hb2)
  have hk := (HK10.out.step hs).below hb2
  have hv := (HV10.out.step hs).below hb2
  have ht := (HT10.out.step hs).below hb2
  have HL11 := Lib.hid HL9.out.step
  have k0 := hk.cell 0 _ rfl
  have k1 := hk.cell 1 _ rfl
  have k2 := hk.cell 2 _ rfl
  have t0 := ht.cell 0 _ rfl
  have t1 := ht.cell 1 _ rfl
  have t2 := ht.cell 2 _ rfl
  have v0 := hv.cell off _ HCu.out
  have s1 := fun W => eqStop 1 1 0 W
  have s2 := fun W => eqState 3 7 0 W
  have hg := Ev.exit HP11.out.env 8
  rw [HL11.out.redE.trans d21d] at hg
  have HX := Lib.hid hg
  clear hg hs hp11 hb2 hk hv ht HP10 HK10 HV10 HT10 HG HL9
  go_wp2_with fail
  refine HX.out.mono ?_
  rintro e w12 ⟨rfl, hs⟩
  have HP12 := Lib.hid (HP11.out.left hs)
  clear hs HX
  go_wp2
  go_ret
  exact ⟨rfl, HP12.out.bel⟩
end Cp
end Go.Proofs.YtkbhokmnbpnlbaaGreat
/- The walk of aediculelaw21.EnvNil. -/
namespace Go.Proofs.YtkbhokmnbpnlbaaGreat
open Go.RowKit Word
set_option linter.unusedVariables false
set_option linter.unusedSimpArgs false
namespace Ev
theorem step_nil (w : World) : Calls Tryz.prog 25 #[.pointer none] w fun e w' => e = .returned (.tuple #[.agg #[.int .u8 0, .int .u32 0, .int .i64 0], .int .i64 1]) ∧ Below w.heap.size w w' := by
  have HR := Lib.hid (ready_nil (w.alloc (.cells #[.int .u8 0, .int .u32 0, .int .i64 0] 67)))
  have HF : Hid (Below w.heap.size w (w.alloc (.cells #[.int .u8 0, .int .u32 0, .int .i64 0] 67))) := Lib.hid ((Below.refl _ _).alloc (Nat.le_refl _) _)
  go_enter Tryz.func25, Tryz.ntmps25
  go_wp2_with fail
  refine HR.out.mono ?_
  rintro e w2 ⟨rfl, rfl⟩
  go_wp2
  refine bodyPost_ret (v := .tuple #[.agg #[.int .u8 0, .int .u32 0, .int .i64 0], .int .i64 1]) (by simp [results, Tryz.results25, go_sem, *]) rfl ?_
  exact ⟨rfl, HF.out⟩
theorem copy_nil (w : World) : Calls Tryz.prog 22 #[.pointer none] w fun e w' => e = .returned (.pointer none) ∧ w = w' := by
  go_enter Tryz.func22, Tryz.ntmps22
  go_wp2
  go_ret
  exact ⟨rfl, rfl⟩
end Ev
namespace Cp
/-- An act of a script. -/
structure ActR where
  dod : Int
  n : Int
  m : Int
  text : ByteArray
def ActR.cells (x : ActR) : Array Value := #[.int .i64 x.dod, .int .u32 x.n, .int .u32 x.m, .string x.text]
structure ActR.ok (x : ActR) : Prop where
  d0 : -9223372036854775808 ≤ x.dod
  d1 : x.dod ≤ 9223372036854775807
  n0 : 0 ≤ x.n
  n1 : x.n ≤ 4294967295
  m0 : 0 ≤ x.m
  m1 : x.m ≤ 4294967295
  t1 : x.text.size ≤ 140737488355328
structure ActBox (w : World) (b : Nat) (x : ActR) : Prop where
  blk : w.heap[b]? = some (.cells x.cells 60 (0, 0))
theorem ActBox.cells {w : World} {b : Nat} {x : ActR} (h : ActBox w b x) : w.cell? ⟨b, 0, none⟩ = some (.int .i64 x.dod) ∧ w.cell? ⟨b, 1, none⟩ = some (.int .u32 x.n) ∧ w.cell? ⟨b, 2, none⟩ = some (.int .u32 x.m) ∧ w.cell? ⟨b, 3, none⟩ = some (.string x.text) := by
  unfold World.cell?
  rw [h.blk]
  exact ⟨rfl, rfl, rfl, rfl⟩
theorem ActBox.below {w w' : World} {b : Nat} {x : ActR} (h : ActBox w b x) (hb : Below w.heap.size w w') : ActBox w' b x := ⟨(hb.block _ (lt_of_block h.blk)).trans h.blk⟩
end Cp
end Go.Proofs.YtkbhokmnbpnlbaaGreat
