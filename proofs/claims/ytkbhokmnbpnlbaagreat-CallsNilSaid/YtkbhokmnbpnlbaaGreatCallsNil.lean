/- CallsNil: Al22, Alive22, CallsNil in one text. -/
import Derived.Test.YtkbhokmnbpnlbaaGreatKdo
import Derived.Test.YtkbhokmnbpnlbaaGreatKnew
import Derived.Test.YtkbhokmnbpnlbaaGreatGrant
import Derived.Laws.StructEq
namespace Go.Proofs.YtkbhokmnbpnlbaaGreat
open Go.RowKit Word
set_option linter.unusedVariables false
set_option linter.unusedSimpArgs false
structure Kpt (w : World) (a : KAt) (e : EAt) (E : En) (b : Nat) (o : Obj) : Prop where
  blk : w.heap[b]? = some o
  ta : a.tag b = 0
  te : ¬ e.foot E.A b
namespace Kpt
variable {w w' : World} {a a' : KAt} {K' : Kn} {e e' : EAt} {E E' : En} {b : Nat} {o : Obj}
theorem step (h : Kpt w a e E b o) (s : JStep w w' a e E.A a' K' e' E') : Kpt w' a' e' E' b o := by
  obtain ⟨h1, h2, h3⟩ := Kl.jblock s h.blk h.ta h.te
  exact ⟨h1, h2, h3⟩
theorem below (h : Kpt w a e E b o) (hb : Below w.heap.size w w') : Kpt w' a e E b o := ⟨(hb.block _ (lt_of_block h.blk)).trans h.blk, h.ta, h.te⟩
theorem newC {K : Kn} (h : KE w a K e E) (c : Array Value) (t : TypeId) : Kpt (w.alloc (.cells c t)) a e E w.heap.size (.cells c t (0, 0)) :=
  ⟨heap_alloc_new w _, Decidable.byContradiction fun g => Nat.lt_irrefl _ (h.kn.lt _ g), fun g => Nat.lt_irrefl _ (h.en.lt _ g)⟩
theorem cell {c : Array Value} {t : TypeId} (h : Kpt w a e E b (.cells c t (0, 0))) (i : Nat) (v : Value) (hi : c[i]? = some v) : w.cell? ⟨b, i, none⟩ = some v := by
  unfold World.cell?
  rw [h.blk]
  exact hi
end Kpt
structure Al (w0 w : World) (kb cb eb : Nat) (a : KAt) (K : Kn) (e : EAt) (E F : En) : Prop where
  k : KEn w0 w a K e E
  l : En.Like E F
  kb : a.kb = kb
  cb : a.c.cb = cb
  eb : e.eb = eb
namespace Al
variable {w0 w w' : World} {kb cb eb : Nat} {a : KAt} {K : Kn} {e : EAt} {E F : En}
theorem below (h : Al w0 w kb cb eb a K e E F) (hb : Below w.heap.size w w') : Al w0 w' kb cb eb a K e E F := { h with k := h.k.below hb }
theorem evt_like {E F : En} (K : Kn) (h : En.Like E F) (b c : Nat) (num : Int) : Kl.evt K E b num = Kl.evt K F c num := by
  unfold Kl.evt
  rw [h.arg]
  have g := Co.like_call K h b c num
  split
  · rfl
  · unfold evOf
    rw [g.ev, g.s]
def Post (w0 w : World) (kb cb eb : Nat) (a : KAt) (e : EAt) (E : En) (K' : Kn) (F' : En) (w' : World) : Prop :=
  ∃ a' e' E', Al w0 w' kb cb eb a' K' e' E' F' ∧ ∀ b o, Kpt w a e E b o → Kpt w' a' e' E' b o
theorem do' (h : Al w0 w kb cb eb a K e E F) (hk : F.kind = 2) (hs : K.N.sent.length < 4398046511104) (num : Int) (h0 : 0 ≤ num) (h1 : num ≤ 4294967295) (hn : (Co.doE K F 0 num).num = 1) :
    Calls Tryz.prog 10 #[.pointer (some ⟨kb, 0, none⟩), .pointer (some ⟨eb, 0, none⟩), .int .u32 num] w fun r w' => r = .returned (.tuple #[.agg (Kl.evC (Kl.evt K F 0 num)), .bool (Kl.evt K F 0 num).seen, .int .i64 0]) ∧ Post w0 w kb cb eb a e E (Co.doK K F 0 num) (Co.doE K F 0 num) w' := by
  obtain ⟨hke, hl, rfl, rfl, rfl⟩ := h
  refine (Kl.does hke.ke hke.num (hl.kind.trans hk) hs num h0 h1).mono ?_
  rintro r w' ⟨blk, a', e', rfl, hj⟩
  have hE := Co.like_doE K hl blk 0 num
  refine ⟨by rw [evt_like K hl blk 0 num], a', e', Co.doE K E blk num, ?_, fun b o hb => hb.step hj⟩
  rw [Co.like_doK K hl blk 0 num] at hj
  exact ⟨hke.step hj (by rw [hE.num, hn, hke.num]), hE, hj.same.1.1, hj.same.1.2.1, hj.same.2.1⟩
theorem set' (h : Al w0 w kb cb eb a K e E F) (c : Nat → Int) (hc : ∀ i, 0 ≤ c i ∧ c i ≤ 4294967295) (fr : ByteArray) :
    Calls Tryz.prog 38 #[.pointer (some ⟨eb, 0, none⟩), .pointer none, .agg (callC 0 0 c fr)] w fun r w' => r = .returned (.tuple #[]) ∧ Post w0 w kb cb eb a e E K { F with r := regs4 F.r c 4 } w' := by
  obtain ⟨hke, hl, rfl, rfl, rfl⟩ := h
  refine (Kl.set_nil hke.en 0 0 c fr hc).mono ?_
  rintro r w' ⟨rfl, hs⟩
  have hj := (JStep.refl hke.ke).right hs
  refine ⟨rfl, a, e, { E with r := regs4 E.r c 4 }, ⟨hke.step hj rfl, ⟨hl.num, hl.kind, hl.code, hl.why, hl.text, hl.own, hl.A, by show regs4 E.r c 4 = regs4 F.r c 4; rw [hl.r], hl.pc⟩, rfl, rfl, rfl⟩, fun b o hb => hb.step hj⟩
theorem arg (h : Al w0 w kb cb eb a K e E F) (n : Int) (n0 : -9223372036854775808 ≤ n) (n1 : n ≤ 9223372036854775807) : Calls Tryz.prog 32 #[.pointer (some ⟨eb, 0, none⟩), .int .i64 n] w fun r w' => r = .returned (.int .u32 (F.arg n)) ∧ w = w' := by
  obtain ⟨hke, hl, rfl, rfl, rfl⟩ := h
  rw [← hl.arg]
  exact Ev.arg hke.en n n0 n1
theorem console (h : Al w0 w kb cb eb a K e E F) : Calls Tryz.prog 48 #[.pointer (some ⟨eb, 0, none⟩)] w fun r w' => r = .returned (.string F.text) ∧ w = w' := by
  obtain ⟨hke, hl, rfl, rfl, rfl⟩ := h
  rw [← hl.text]
  exact Ev.console hke.en
end Al
namespace Cp
def hi22 : ByteArray := ⟨#[104, 105]⟩
def perm22 : Nat → Int := fun i => if i = 0 then 8 else 1
def code22 : Nat → Ins := fun _ => ⟨0, 0, 0, 0, 0⟩
def st22 (B : Nat) : St := ⟨none, 0, 0, fun _ => 0, 0, some ⟨B, 0, none⟩, 2, 2, perm22, 0, none, 0, 0, code22, 256, hi22⟩
def en22 : En := ⟨1, 2, 0, 0, ByteArray.empty, [], madeA perm22 2 0 (strOfNums (textL code22 0)) 256 hi22, regsK (fun _ => 0) (min 0 16), 0⟩
def c22 (x y : Int) : Nat → Int := fun i => if i = 0 then x else if i = 1 then y else 0
def k22 : Kn := { Kn.new 4 [] with g := some ⟨⟨0, [], [], true⟩, 0⟩ }
def en22a : En := { en22 with r := regs4 en22.r (c22 256 2) 4 }
def en22b : En := Co.doE k22 en22a 0 9
def en22c : En := { en22b with r := regs4 en22b.r (c22 256 24) 4 }
def en22d : En := Co.doE k22 en22c 0 7
def en22e : En := { en22d with r := regs4 en22d.r (c22 512 0) 4 }
def en22f : En := Co.doE k22 en22e 0 3
def en22g : En := Co.doE k22 en22f 0 99
theorem k22a : Co.doK k22 en22a 0 9 = k22 := by kernel_rfl
theorem k22b : Co.doK k22 en22c 0 7 = k22 := by kernel_rfl
theorem k22c : Co.doK k22 en22e 0 3 = k22 := by kernel_rfl
theorem k22d : Co.doK k22 en22f 0 99 = k22 := by kernel_rfl
theorem v22a : Kl.evt k22 en22a 0 9 = ⟨1, 1, hi22, 0, true⟩ := by kernel_rfl
theorem v22b : Kl.evt k22 en22c 0 7 = ⟨0, 0, ByteArray.empty, 0, false⟩ := by kernel_rfl
theorem v22n : (en22a.kind, en22b.num, en22c.kind, en22d.num, en22e.kind, en22f.num, en22f.kind, en22g.num) = (2, 1, 2, 1, 2, 1, 2, 1) := by kernel_rfl
theorem v22r : (en22b.arg 1, en22b.arg 2, en22d.arg 2, en22f.arg 2, en22g.arg 2, en22g.text) = (2, 0, 1, 4, 6, hi22) := by kernel_rfl
theorem made22a (W : World) (B : Nat) (h : W.heap[B]? = some (.cells #[.int .u8 8, .int .u8 1] 5 (0, 0))) :
    Calls Tryz.prog 9 #[.agg (st22 B).cells] W fun e w' => ∃ a E b R F, e = .returned (.tuple #[.pointer (some ⟨a.eb, 0, none⟩), .pointer (some ⟨b.eb, 0, none⟩), .bool true]) ∧ EPair W w' a E b R F ∧ En.Like E en22 := by
  refine (made22 W (st22 B) ?_).mono ?_
  · refine ⟨fun h => absurd h (by simp [st22]), fun i hi => absurd hi (by simp [st22]), by simp [st22], by simp [st22], by simp [st22], fun _ => ⟨B, 0, rfl, lt_of_block h, fun i hi => ?_⟩, fun i hi => ?_, by simp [st22], by simp [st22], by simp [st22], fun h => absurd h (by simp [st22]), fun i hi => absurd hi (by simp [st22]), by simp [st22], by simp [st22], by simp [st22], by simp [st22, hi22]; decide⟩
    · have : i = 0 ∨ i = 1 := by simp only [st22] at hi; omega
      unfold World.cell?
      rw [h]
      rcases this with rfl | rfl <;> rfl
    · have : i = 0 ∨ i = 1 := by simp only [st22] at hi; omega
      rcases this with rfl | rfl <;> exact ⟨by simp [st22, perm22], by simp [st22, perm22]⟩
  · rintro e w' ⟨a, E, b, R, F, h1, h2, _, h3⟩
    exact ⟨a, E, b, R, F, h1, h2, h3⟩
end Cp
end Go.Proofs.YtkbhokmnbpnlbaaGreat
namespace Go.Proofs.YtkbhokmnbpnlbaaGreat
open Go.RowKit Word
set_option linter.unusedVariables false
set_option linter.unusedSimpArgs false
namespace Cp
theorem eqEv (k n m : Int) (s : ByteArray) (w : World) : (binOp .eql 39 (.agg #[.int .u8 k, .int .i64 n, .string s, .int .u32 m]) (.agg #[.int .u8 k, .int .i64 n, .string s, .int .u32 m])).run Tryz.prog w = .ok (.bool true) w := by
  simp [go_sem, Tryz.underlying39]
theorem call22 (x y : Int) : callC 0 0 (c22 x y) ByteArray.empty = #[.int .i64 0, .int .u32 0, .int .u32 x, .int .u32 y, .int .u32 0, .int .u32 0, .string ByteArray.empty] := by simp [callC, c22]
theorem c22_bd (x y : Int) (x0 : 0 ≤ x) (x1 : x ≤ 4294967295) (y0 : 0 ≤ y) (y1 : y ≤ 4294967295) (i : Nat) : 0 ≤ c22 x y i ∧ c22 x y i ≤ 4294967295 := by
  unfold c22
  split
  · exact ⟨x0, x1⟩
  · split
    · exact ⟨y0, y1⟩
    · omega
theorem gr22 : (Gp.checkE ⟨0, [], [], true⟩, Ca.grE 4 [] ⟨0, [], [], true⟩, Ca.hardOk 4 []) = (0, 0, true) := by kernel_rfl
theorem words_nil (w : World) : Rs.Words w none [] := by
  constructor
  · exact fun i hi => absurd hi (Nat.not_lt_zero _)
  · simp
set_option maxRecDepth 100000 in
set_option maxHeartbeats 8000000 in
theorem alive22 (w : World) : Calls Tryz.prog 7 #[] w fun e w' => e = .returned (.bool true) ∧ Below w.heap.size w w' := by
  obtain ⟨g1, g2, g3⟩ := (by have := gr22; simpa only [Prod.mk.injEq] using this : _ ∧ _ ∧ _)
  obtain ⟨n1, n2, n3, n4, n5, n6, n7, n8⟩ := (by have := v22n; simpa only [Prod.mk.injEq] using this : _ ∧ _ ∧ _ ∧ _ ∧ _ ∧ _ ∧ _ ∧ _)
  obtain ⟨r1, r2, r3, r4, r5, r6⟩ := (by have := v22r; simpa only [Prod.mk.injEq] using this : _ ∧ _ ∧ _ ∧ _ ∧ _ ∧ _)
  have HG := Lib.hid (And.intro g1 g2)
  have NN := Lib.hid (⟨n1, n2, n3, n4, n5, n6, n7, n8⟩ : _ ∧ _ ∧ _ ∧ _ ∧ _ ∧ _ ∧ _ ∧ _)
  have RR := Lib.hid (⟨r1, r2, r3, r4, r5, r6⟩ : _ ∧ _ ∧ _ ∧ _ ∧ _ ∧ _)
  have HNew := Lib.hid (Kl.new (a := none) (cap := 0) (hp := 4) (words_nil w) (by simp) (by omega) g3)
  clear g1 g2 g3 n1 n2 n3 n4 n5 n6 n7 n8 r1 r2 r3 r4 r5 r6
  go_enter Tryz.func7, Tryz.ntmps7
  go_wp2_with fail
  refine HNew.out.mono ?_
  rintro r w1 ⟨a, rfl, hk, ht, hb⟩
  have HK1 := Lib.hid (And.intro hk (And.intro ht hb))
  clear hk ht hb HNew
  go_wp2_with fail
  refine (Kl.caps HK1.out.1).mono ?_
  rintro r w2 ⟨rfl, rfl⟩
  go_wp2_with fail
  refine (Kl.caps HK1.out.1).mono ?_
  rintro r w2 ⟨rfl, rfl⟩
  go_wp2_with fail
  refine (Kl.grant HK1.out.1 rfl (by decide) (m := ⟨0, [], [], true⟩) (ev := .slice none 0 0) (pv := .slice none 0 0) ⟨SlV.nil _ _ _, SlV.nil _ _ _⟩ ⟨Int.le_refl 0, by decide, fun x hx => (nomatch hx), fun x hx => (nomatch hx)⟩).mono ?_
  rintro r w2 (⟨g, _⟩ | ⟨_, g, _⟩ | ⟨_, _, rfl, a2, hs⟩)
  · exact absurd HG.out.1 g
  · exact absurd HG.out.2 g
  have hk2 := hs.k
  have hbel : Below w.heap.size w w2 := Mod.below HK1.out.2.2 hs.mod HK1.out.2.2.size fun k _ hk => HK1.out.2.1 k hk.1
  have ht2 : ∀ k, a2.tag k ≠ 0 → w.heap.size ≤ k := fun k hk => by
    rcases hs.foot k hk with g | g
    · exact HK1.out.2.1 k g
    · have := HK1.out.2.2.size
      omega
  have HK2 : Hid (Knl w2 a2 k22 ∧ (∀ k, a2.tag k ≠ 0 → w.heap.size ≤ k) ∧ Below w.heap.size w w2 ∧ a2.kb = a.kb) := Lib.hid ⟨hk2, ht2, hbel, hs.same.1⟩
  clear hk2 hbel ht2 hs HK1 HG
  have hP : Below w2.heap.size w2 (w2.alloc (.cells #[.int .u8 8, .int .u8 1] 5)) := (Below.refl _ _).alloc (Nat.le_refl _) _
  have HM := Lib.hid (made22a _ _ (heap_alloc_new w2 (.cells #[.int .u8 8, .int .u8 1] 5)))
  have HP := Lib.hid hP
  clear hP
  unfold st22 St.cells hi22 at HM
  go_wp2_with fail
  refine HM.out.mono ?_
  rintro r w3 ⟨e, E, b, R, F, rfl, hp, hl⟩
  have hal : Al w w3 a.kb a2.c.cb e.eb a2 k22 e E en22 := by
    have hb23 := below_th HP.out hp.bel
    have hk3 := HK2.out.1.below hb23
    refine ⟨⟨hk3, hp.env, fun x hx => ?_, below_th HK2.out.2.2.1 hb23, HK2.out.2.1, fun x hx => ?_, hl.num⟩, hl, HK2.out.2.2.2, rfl, rfl⟩
    · have h1 := hp.a0 x hx
      exact Decidable.byContradiction fun g => by
        have h2 := HK2.out.1.lt x g
        have h3 := HP.out.size
        omega
    · have h1 := hp.a0 x hx
      have h2 := HK2.out.2.2.1.size
      have h3 := HP.out.size
      omega
  have HA0 := Lib.hid hal
  clear hal hp hl HM HP HK2
  have hc := HA0.out.set' (c22 256 2) (c22_bd 256 2 (by omega) (by omega) (by omega) (by omega)) ByteArray.empty
  rw [call22] at hc
  have HC := Lib.hid hc
  clear hc
  go_wp2_with fail
  refine HC.out.mono ?_
  rintro r w4 ⟨rfl, a4, e4, E4, hal, hkp⟩
  have HA4 : Hid (Al _ _ _ _ _ _ _ _ _ en22a) := Lib.hid hal
  clear hal hkp HC HA0
  have hc := HA4.out.do' NN.out.1 (by decide) 9 (by omega) (by omega) NN.out.2.1
  rw [k22a, v22a] at hc
  have HC := Lib.hid hc
  clear hc
  unfold Kl.evC hi22 at HC
  go_wp2_with fail
  refine HC.out.mono ?_
  rintro r w5 ⟨rfl, a5, e5, E5, hal, hkp⟩
  have HA5 : Hid (Al _ _ _ _ _ _ _ _ _ en22b) := Lib.hid hal
  have HA6 := Lib.hid (HA5.out.below (w' := w5.alloc (.cells #[.int .u8 1, .int .i64 1, .string ⟨#[104, 105]⟩, .int .u32 0] 39)) ((Below.refl _ _).alloc (Nat.le_refl _) _))
  have HX6 := Lib.hid (Kpt.newC hal.k.ke #[.int .u8 1, .int .i64 1, .string ⟨#[104, 105]⟩, .int .u32 0] 39)
  clear hal hkp HC HA4 HA5
  go_wp2_with fail
  refine (HA6.out.arg 1 (by omega) (by omega)).mono ?_
  rintro r w6 ⟨rfl, rfl⟩
  rw [RR.out.1]
  go_wp2_with fail
  refine (HA6.out.arg 2 (by omega) (by omega)).mono ?_
  rintro r w6 ⟨rfl, rfl⟩
  rw [RR.out.2.1]
  generalize hw6 : w5.alloc (.cells #[.int .u8 1, .int .i64 1, .string ⟨#[104, 105]⟩, .int .u32 0] 39) = w6 at *
  generalize w5.heap.size = xb at *
  clear hw6 w5
  have hc := HA6.out.set' (c22 256 24) (c22_bd 256 24 (by omega) (by omega) (by omega) (by omega)) ByteArray.empty
  rw [call22] at hc
  have HC := Lib.hid hc
  clear hc
  go_wp2_with fail
  refine HC.out.mono ?_
  rintro r w7 ⟨rfl, a7, e7, E7, hal, hkp⟩
  have HA7 : Hid (Al _ _ _ _ _ _ _ _ _ en22c) := Lib.hid hal
  have HX7 := Lib.hid (hkp _ _ HX6.out)
  clear hal hkp HC HA6
  have hc := HA7.out.do' NN.out.2.2.1 (by decide) 7 (by omega) (by omega) NN.out.2.2.2.1
  rw [k22b, v22b] at hc
  have HC := Lib.hid hc
  clear hc
  unfold Kl.evC at HC
  go_wp2_with fail
  refine HC.out.mono ?_
  rintro r w8 ⟨rfl, a8, e8, E8, hal, hkp⟩
  have HA8 : Hid (Al _ _ _ _ _ _ _ _ _ en22d) := Lib.hid hal
  have hX8 := hkp _ _ HX7.out
  have hb9 : Below w8.heap.size w8 (w8.alloc (.cells #[.int .u8 0, .int .i64 0, .string ByteArray.empty, .int .u32 0] 39)) := (Below.refl _ _).alloc (Nat.le_refl _) _
  have HA9 := Lib.hid (HA8.out.below hb9)
  have HX9 := Lib.hid (hX8.below hb9)
  clear hal hkp HC HA7 HA8 hX8 hb9 HX7
  go_wp2_with fail
  refine (HA9.out.arg 2 (by omega) (by omega)).mono ?_
  rintro r w9 ⟨rfl, rfl⟩
  rw [RR.out.2.2.1]
  generalize hw9 : w8.alloc (.cells #[.int .u8 0, .int .i64 0, .string ByteArray.empty, .int .u32 0] 39) = w9 at *
  generalize w8.heap.size = yb at *
  clear hw9 w8
  have hc := HA9.out.set' (c22 512 0) (c22_bd 512 0 (by omega) (by omega) (by omega) (by omega)) ByteArray.empty
  rw [call22] at hc
  have HC := Lib.hid hc
  clear hc
  go_wp2_with fail
  refine HC.out.mono ?_
  rintro r w10 ⟨rfl, a10, e10, E10, hal, hkp⟩
  have HA10 : Hid (Al _ _ _ _ _ _ _ _ _ en22e) := Lib.hid hal
  have HX10 := Lib.hid (hkp _ _ HX9.out)
  clear hal hkp HC HA9
  have hc := HA10.out.do' NN.out.2.2.2.2.1 (by decide) 3 (by omega) (by omega) NN.out.2.2.2.2.2.1
  rw [k22c] at hc
  have HC := Lib.hid hc
  clear hc
  go_wp2_with fail
  refine HC.out.mono ?_
  rintro r w11 ⟨rfl, a11, e11, E11, hal, hkp⟩
  have HA11 : Hid (Al _ _ _ _ _ _ _ _ _ en22f) := Lib.hid hal
  have HX11 := Lib.hid (hkp _ _ HX10.out)
  clear hal hkp HC HA10 HX10
  go_wp2_with fail
  refine (HA11.out.arg 2 (by omega) (by omega)).mono ?_
  rintro r w12 ⟨rfl, rfl⟩
  rw [RR.out.2.2.2.1]
  have hc := HA11.out.do' NN.out.2.2.2.2.2.2.1 (by decide) 99 (by omega) (by omega) NN.out.2.2.2.2.2.2.2
  rw [k22d] at hc
  have HC := Lib.hid hc
  clear hc
  go_wp2_with fail
  refine HC.out.mono ?_
  rintro r w13 ⟨rfl, a13, e13, E13, hal, hkp⟩
  have HA13 : Hid (Al _ _ _ _ _ _ _ _ _ en22g) := Lib.hid hal
  have HX13 := Lib.hid (hkp _ _ HX11.out)
  clear hal hkp HC HA11 HX11
  have x0 := HX13.out.cell 0 _ rfl
  have x1 := HX13.out.cell 1 _ rfl
  have x2 := HX13.out.cell 2 _ rfl
  have x3 := HX13.out.cell 3 _ rfl
  have hq := eqEv 1 1 0 ⟨#[104, 105]⟩ w13
  go_wp2_with fail
  refine (HA13.out.arg 2 (by omega) (by omega)).mono ?_
  rintro r w14 ⟨rfl, rfl⟩
  rw [RR.out.2.2.2.2.1]
  clear x0 x1 x2 x3 hq
  go_wp2_with fail
  refine HA13.out.console.mono ?_
  rintro r w14 ⟨rfl, rfl⟩
  rw [RR.out.2.2.2.2.2]
  unfold hi22
  go_wp2
  go_ret
  exact ⟨rfl, HA13.out.k.bel⟩
end Cp
end Go.Proofs.YtkbhokmnbpnlbaaGreat
namespace Go.Proofs.YtkbhokmnbpnlbaaGreat
open Go.RowKit Word
set_option linter.unusedVariables false
set_option linter.unusedSimpArgs false
namespace Cp
theorem fld0 (x : Int) (v : Value) (w : World) : (Instr.field 45 (.agg #[.int .u32 x, v]) 0).run Tryz.prog w = .ok (.int .u32 x) w := by kernel_rfl
theorem fld1 (x : Int) (v : Value) (w : World) : (Instr.field 45 (.agg #[.int .u32 x, v]) 1).run Tryz.prog w = .ok v w := by kernel_rfl
theorem set_hp (K : Kn) (id n : Int) (s : ByteArray) : (K.setBlock id n s).hp = K.hp := by unfold Kn.setBlock; split <;> rfl
theorem set_hx (K : Kn) (id n : Int) (s : ByteArray) : (K.setBlock id n s).hx = K.hx := by unfold Kn.setBlock; split <;> rfl
def st0 : St := ⟨none, 0, 0, fun _ => 0, 0, none, 0, 0, fun _ => 0, 0, none, 0, 0, code22, 0, ByteArray.empty⟩
theorem st0_ok (w : World) : st0.ok w := by
  refine ⟨fun h => absurd h (by simp [st0]), fun i hi => absurd hi (by simp [st0]), by simp [st0], by simp [st0], by simp [st0], fun h => absurd h (by simp [st0]), fun i hi => absurd hi (by simp [st0]), by simp [st0], by simp [st0], by simp [st0], fun h => absurd h (by simp [st0]), fun i hi => absurd hi (by simp [st0]), by simp [st0], by simp [st0], by simp [st0], by simp [st0]⟩
theorem words_two {w : World} {b : Nat} (h : w.heap[b]? = some (.cells #[.int .u32 2] 22 (0, 0))) : Rs.Words w (some ⟨b, 0, none⟩) [2] := by
  constructor
  · intro i hi
    have : i = 0 := by simp at hi; omega
    subst this
    refine ⟨b, 0, rfl, ?_⟩
    unfold World.cell?
    rw [h]
    rfl
  · simp
theorem hw2 : Ca.hardOk 0 [2] = true := by kernel_rfl
theorem set_ok {n : Int} {s : ByteArray} (h1 : n = 0 ∨ n = 1) (hs : s.size = 64) : Kn.setE (Kn.new 0 [2]).B 0 n s = 0 := by
  unfold Kn.setE
  have : (Kn.block (Kn.new 0 [2]).B 0 n).isNone = false := by rcases h1 with rfl | rfl <;> rfl
  rw [this, if_neg (by simp [hs])]
theorem set_no {id n : Int} {s : ByteArray} (i0 : 0 ≤ id) (n0 : 0 ≤ n) (h : 0 < id ∨ 1 < n ∨ s.size ≠ 64) : Kn.setE (Kn.new 0 [2]).B id n s = 2 := by
  unfold Kn.setE
  rcases h with h | h | h
  · have : Kn.block (Kn.new 0 [2]).B id n = none := by
      unfold Kn.block
      rw [if_pos ⟨i0, n0⟩]
      have : (Kn.new 0 [2]).B[id.toNat]? = none := List.getElem?_eq_none (by show 1 ≤ id.toNat; omega)
      rw [this]
      rfl
    rw [this, if_pos (.inl rfl)]
  · have : Kn.block (Kn.new 0 [2]).B id n = none := by
      unfold Kn.block
      rw [if_pos ⟨i0, n0⟩]
      rcases Int.lt_or_le 0 id with q | q
      · have : (Kn.new 0 [2]).B[id.toNat]? = none := List.getElem?_eq_none (by show 1 ≤ id.toNat; omega)
        rw [this]
        rfl
      · obtain rfl : id = 0 := by omega
        show (List.replicate 2 z64)[n.toNat]? = none
        exact List.getElem?_eq_none (by rw [List.length_replicate]; omega)
    rw [this, if_pos (.inl rfl)]
  · rw [if_pos (.inr h)]
theorem hard2 {w : World} {a : KAt} {id n : Int} {s : ByteArray} (h : Knl w a ((Kn.new 0 [2]).setBlock id n s)) : Calls Tryz.prog 15 #[.pointer (some ⟨a.kb, 0, none⟩)] w fun e w' => ∃ o c, e = .returned (.agg #[.int .u32 0, .slice o 1 c]) ∧ Below w.heap.size w w' := by
  have hh := Kl.hard h
  rw [show ((Kn.new 0 [2]).setBlock id n s).hp = 0 from set_hp _ _ _ _, show ((Kn.new 0 [2]).setBlock id n s).hx.length = 1 from congrArg List.length (set_hx _ _ _ _)] at hh
  exact hh
set_option maxRecDepth 100000 in
set_option maxHeartbeats 100000000 in
theorem callsNilL (w : World) (id : Int) (i0 : 0 ≤ id) (i1 : id ≤ 4294967295) (n : Int) (n0 : 0 ≤ n) (n1 : n ≤ 4294967295) (s : ByteArray) (_ : s.size < 140737488355328) :
    Calls Tryz.prog 3 #[.int .u32 id, .int .u32 n, .string s] w fun e w' => e = .returned (.bool true) ∧ Below w.heap.size w w' := by
  rename_i hz
  clear hz
  have HAl := Lib.hid alive22
  by_cases hl : 1024 < s.size
  · have hl' : (1024 : Int) < (s.size : Int) := by omega
    go_enter Tryz.func3, Tryz.ntmps3
    go_wp2_with fail
    refine (HAl.out _).mono ?_
    rintro e w' ⟨rfl, hb⟩
    go_wp2
    go_ret
    exact ⟨rfl, hb⟩
  have hl' : (s.size : Int) ≤ 1024 := by omega
  have hm := made22 w st0 (st0_ok w)
  unfold st0 St.cells at hm
  have HM := Lib.hid hm
  have HD := Lib.hid fun (W : World) (e : Option Addr) => Kl.do_nil e id W
  have HN := Lib.hid fun (W : World) (b : Nat) => Kl.do_noenv b id W
  unfold Kl.noEv at HD HN
  clear hm hl
  go_enter Tryz.func3, Tryz.ntmps3
  go_wp2_with fail
  refine (Kl.block_nil id n w).mono ?_
  rintro e w1 ⟨rfl, rfl⟩
  go_wp2_with fail
  refine HM.out.mono ?_
  rintro e w2 ⟨a, E, b, R, F, rfl, hp, _, _⟩
  have HB2 := Lib.hid hp.bel
  clear hp HM
  go_wp2_with fail
  refine (HD.out w2 _).mono ?_
  rintro e w3 ⟨rfl, hb⟩
  have HB3 := Lib.hid (below_th HB2.out hb)
  have HB4 : Hid (∀ o, Below w.heap.size w (w3.alloc o)) := Lib.hid fun o => HB3.out.alloc HB3.out.size o
  have HB5 : Hid (∀ o o', Below w.heap.size w ((w3.alloc o).alloc o')) := Lib.hid fun o o' => (HB4.out o).alloc (HB4.out o).size o'
  clear hb HD HB2
  have HNew := Lib.hid fun (W : World) (b : Nat) (h : W.heap[b]? = some (.cells #[.int .u32 2] 22 (0, 0))) => Kl.new (w := W) (cap := 1) (words_two h) (by simp) (Int.le_refl 0) hw2
  go_wp2_with fail
  refine (HNew.out _ _ (by
    have h := heap_alloc_new (w3.alloc (.cells #[.int .u8 0, .int .i64 0, .string ByteArray.empty, .int .u32 0] 39)) (.cells #[.int .u32 2] 22)
    rw [show (w3.alloc (.cells #[.int .u8 0, .int .i64 0, .string ByteArray.empty, .int .u32 0] 39)).heap.size = w3.heap.size + 1 by simp] at h
    exact h)).mono ?_
  rintro e w4 ⟨k, rfl, hk, ht, hb⟩
  have HT : Hid (∀ j, k.tag j ≠ 0 → w.heap.size ≤ j) := Lib.hid fun j hj => Nat.le_trans (HB5.out _ _).size (ht j hj)
  clear ht
  have HK4 := Lib.hid hk
  have HB6 := Lib.hid (below_th (HB5.out _ _) hb)
  clear hk hb HNew
  go_wp2_with fail
  refine (HN.out w4 _).mono ?_
  rintro e w5 ⟨rfl, hb⟩
  have HK5 := Lib.hid ((HK4.out.below hb).below (w' := w5.alloc (.cells #[.int .u8 0, .int .i64 0, .string ByteArray.empty, .int .u32 0] 39)) ((Below.refl _ _).alloc (Nat.le_refl _) _))
  have hb7 := below_th HB6.out hb
  have HB7 := Lib.hid (hb7.alloc hb7.size (.cells #[.int .u8 0, .int .i64 0, .string ByteArray.empty, .int .u32 0] 39))
  clear hb hb7 HB6 HK4 HN HB5 HB4 HB3
  have hf0 := fun W : World => fld0 0 (.slice none 0 0) W
  have hf1 := fun (W : World) (o : Option Addr) (c : Nat) => fld1 0 (.slice o 1 c) W
  by_cases d1 : 0 < id
  · have hse : Kn.setE (Kn.new 0 [2]).B id n s = 2 := set_no i0 n0 (.inl d1)
    go_wp2_with fail
    refine (Kl.setBlock_nil id n s _).mono ?_
    rintro e w7 ⟨rfl, rfl⟩
    go_wp2_with fail
    refine (Kl.caps_nil _).mono ?_
    rintro e w7 ⟨rfl, rfl⟩
    go_wp2_with fail
    refine (Kl.nic_nil _).mono ?_
    rintro e w7 ⟨rfl, rfl⟩
    go_wp2_with fail
    refine (Kl.hard_nil _).mono ?_
    rintro e w7 ⟨rfl, hb⟩
    have hset := Kl.setBlock (HK5.out.below hb) id n s i0 i1 n0 n1 (by omega)
    rw [hse] at hset
    have HS := Lib.hid hset
    have HB8 := Lib.hid (below_th HB7.out hb)
    clear hb hset
    go_wp2_with fail
    refine (Kl.now_nil _).mono ?_
    rintro e w8 ⟨rfl, rfl⟩
    go_wp2_with fail
    refine (Kl.tick_nil _).mono ?_
    rintro e w8 ⟨rfl, rfl⟩
    go_wp2_with fail
    refine (Kl.copy_nil _).mono ?_
    rintro e w8 ⟨rfl, rfl⟩
    go_wp2_with fail
    refine HS.out.mono ?_
    rintro e w8 ⟨rfl, hs⟩
    have HH := Lib.hid (hard2 hs.k)
    have HB9 : Hid (Below w.heap.size w w8) := Lib.hid (Mod.below HB8.out hs.mod HB8.out.size fun j _ hj => HT.out j hj.1)
    clear hs HS
    go_wp2_with fail
    refine HH.out.mono ?_
    rintro e w9 ⟨o, c, rfl, hb⟩
    have HB10 := Lib.hid (below_th HB9.out hb)
    clear hb HH
    have hf2 := hf1 w9 o c
    go_wp2_with fail
    refine (HAl.out _).mono ?_
    rintro e w10 ⟨rfl, hb⟩
    have HB11 := Lib.hid (below_th HB10.out hb)
    clear hb
    go_wp2
    go_ret
    exact ⟨rfl, HB11.out⟩
  by_cases d2 : 1 < n
  · have hse : Kn.setE (Kn.new 0 [2]).B id n s = 2 := set_no i0 n0 (.inr (.inl d2))
    go_wp2_with fail
    refine (Kl.setBlock_nil id n s _).mono ?_
    rintro e w7 ⟨rfl, rfl⟩
    go_wp2_with fail
    refine (Kl.caps_nil _).mono ?_
    rintro e w7 ⟨rfl, rfl⟩
    go_wp2_with fail
    refine (Kl.nic_nil _).mono ?_
    rintro e w7 ⟨rfl, rfl⟩
    go_wp2_with fail
    refine (Kl.hard_nil _).mono ?_
    rintro e w7 ⟨rfl, hb⟩
    have hset := Kl.setBlock (HK5.out.below hb) id n s i0 i1 n0 n1 (by omega)
    rw [hse] at hset
    have HS := Lib.hid hset
    have HB8 := Lib.hid (below_th HB7.out hb)
    clear hb hset
    go_wp2_with fail
    refine (Kl.now_nil _).mono ?_
    rintro e w8 ⟨rfl, rfl⟩
    go_wp2_with fail
    refine (Kl.tick_nil _).mono ?_
    rintro e w8 ⟨rfl, rfl⟩
    go_wp2_with fail
    refine (Kl.copy_nil _).mono ?_
    rintro e w8 ⟨rfl, rfl⟩
    go_wp2_with fail
    refine HS.out.mono ?_
    rintro e w8 ⟨rfl, hs⟩
    have HH := Lib.hid (hard2 hs.k)
    have HB9 : Hid (Below w.heap.size w w8) := Lib.hid (Mod.below HB8.out hs.mod HB8.out.size fun j _ hj => HT.out j hj.1)
    clear hs HS
    go_wp2_with fail
    refine HH.out.mono ?_
    rintro e w9 ⟨o, c, rfl, hb⟩
    have HB10 := Lib.hid (below_th HB9.out hb)
    clear hb HH
    have hf2 := hf1 w9 o c
    go_wp2_with fail
    refine (HAl.out _).mono ?_
    rintro e w10 ⟨rfl, hb⟩
    have HB11 := Lib.hid (below_th HB10.out hb)
    clear hb
    go_wp2
    go_ret
    exact ⟨rfl, HB11.out⟩
  by_cases d3 : s.size = 64
  · have d4 : (s.size : Int) = 64 := by omega
    have hse : Kn.setE (Kn.new 0 [2]).B id n s = 0 := (by obtain rfl : id = 0 := (by omega); exact set_ok (by omega) d3)
    go_wp2_with fail
    refine (Kl.setBlock_nil id n s _).mono ?_
    rintro e w7 ⟨rfl, rfl⟩
    go_wp2_with fail
    refine (Kl.caps_nil _).mono ?_
    rintro e w7 ⟨rfl, rfl⟩
    go_wp2_with fail
    refine (Kl.nic_nil _).mono ?_
    rintro e w7 ⟨rfl, rfl⟩
    go_wp2_with fail
    refine (Kl.hard_nil _).mono ?_
    rintro e w7 ⟨rfl, hb⟩
    have hset := Kl.setBlock (HK5.out.below hb) id n s i0 i1 n0 n1 (by omega)
    rw [hse] at hset
    have HS := Lib.hid hset
    have HB8 := Lib.hid (below_th HB7.out hb)
    clear hb hset
    go_wp2_with fail
    refine (Kl.now_nil _).mono ?_
    rintro e w8 ⟨rfl, rfl⟩
    go_wp2_with fail
    refine (Kl.tick_nil _).mono ?_
    rintro e w8 ⟨rfl, rfl⟩
    go_wp2_with fail
    refine (Kl.copy_nil _).mono ?_
    rintro e w8 ⟨rfl, rfl⟩
    go_wp2_with fail
    refine HS.out.mono ?_
    rintro e w8 ⟨rfl, hs⟩
    have HH := Lib.hid (hard2 hs.k)
    have HB9 : Hid (Below w.heap.size w w8) := Lib.hid (Mod.below HB8.out hs.mod HB8.out.size fun j _ hj => HT.out j hj.1)
    clear hs HS
    go_wp2_with fail
    refine HH.out.mono ?_
    rintro e w9 ⟨o, c, rfl, hb⟩
    have HB10 := Lib.hid (below_th HB9.out hb)
    clear hb HH
    have hf2 := hf1 w9 o c
    go_wp2_with fail
    refine (HAl.out _).mono ?_
    rintro e w10 ⟨rfl, hb⟩
    have HB11 := Lib.hid (below_th HB10.out hb)
    clear hb
    go_wp2
    go_ret
    exact ⟨rfl, HB11.out⟩
  · have d4 : ¬ (s.size : Int) = 64 := by omega
    have d5 : ((s.size : Int) != 64) = true := bne_iff_ne.2 d4
    have hse : Kn.setE (Kn.new 0 [2]).B id n s = 2 := set_no i0 n0 (.inr (.inr d3))
    go_wp2_with fail
    refine (Kl.setBlock_nil id n s _).mono ?_
    rintro e w7 ⟨rfl, rfl⟩
    go_wp2_with fail
    refine (Kl.caps_nil _).mono ?_
    rintro e w7 ⟨rfl, rfl⟩
    go_wp2_with fail
    refine (Kl.nic_nil _).mono ?_
    rintro e w7 ⟨rfl, rfl⟩
    go_wp2_with fail
    refine (Kl.hard_nil _).mono ?_
    rintro e w7 ⟨rfl, hb⟩
    have hset := Kl.setBlock (HK5.out.below hb) id n s i0 i1 n0 n1 (by omega)
    rw [hse] at hset
    have HS := Lib.hid hset
    have HB8 := Lib.hid (below_th HB7.out hb)
    clear hb hset
    go_wp2_with fail
    refine (Kl.now_nil _).mono ?_
    rintro e w8 ⟨rfl, rfl⟩
    go_wp2_with fail
    refine (Kl.tick_nil _).mono ?_
    rintro e w8 ⟨rfl, rfl⟩
    go_wp2_with fail
    refine (Kl.copy_nil _).mono ?_
    rintro e w8 ⟨rfl, rfl⟩
    go_wp2_with fail
    refine HS.out.mono ?_
    rintro e w8 ⟨rfl, hs⟩
    have HH := Lib.hid (hard2 hs.k)
    have HB9 : Hid (Below w.heap.size w w8) := Lib.hid (Mod.below HB8.out hs.mod HB8.out.size fun j _ hj => HT.out j hj.1)
    clear hs HS
    go_wp2_with fail
    refine HH.out.mono ?_
    rintro e w9 ⟨o, c, rfl, hb⟩
    have HB10 := Lib.hid (below_th HB9.out hb)
    clear hb HH
    have hf2 := hf1 w9 o c
    go_wp2_with fail
    refine (HAl.out _).mono ?_
    rintro e w10 ⟨rfl, hb⟩
    have HB11 := Lib.hid (below_th HB10.out hb)
    clear hb
    go_wp2
    go_ret
    exact ⟨rfl, HB11.out⟩
end Cp
end Go.Proofs.YtkbhokmnbpnlbaaGreat
