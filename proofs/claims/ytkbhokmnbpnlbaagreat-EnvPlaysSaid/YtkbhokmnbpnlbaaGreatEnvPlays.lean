/- The walk of aediculelaw21.EnvPlays. -/
import Derived.Test.YtkbhokmnbpnlbaaGreatDoes21
import Derived.Test.YtkbhokmnbpnlbaaGreatEnvCp
namespace Go.Proofs.YtkbhokmnbpnlbaaGreat
open Go.RowKit Word
set_option linter.unusedVariables false
set_option linter.unusedSimpArgs false
section
variable {P : Program} {ops : Array Oper} {Q : Exit → Act → World → Prop} {md : Region.Mode} {S T : World → Prop}
/-- A stronger condition may be asked from here on. -/
theorem H_mono (h : ∀ w, T w → S w) : ∀ (fuel : Nat) (listed : Array Bool) (a : Act) (w : World), wpAnyH P md ops Q T fuel listed a w → wpAnyH P md ops Q S fuel listed a w
  | 0, _, _, _, g => g
  | fuel + 1, _, _, _, g => ⟨g.1, fun i hi => wpOp_mono (fun a' w' q => ⟨h w' q.1, H_mono h fuel _ a' w' q.2⟩) (g.2 i hi)⟩
/-- One alone may come up. -/
theorem H_one {l : List Oper} {i : Nat} {o : Oper} {fuel : Nat} {listed : Array Bool} {a : Act} {w : World} (hr : Region.ready md l.toArray listed = [i]) (ho : l[i]? = some o)
    (h : ∀ K' : Act → World → Prop, Shut (∀ a w, S w → (S w → wpAnyH P md l.toArray Q S fuel (listed.setIfInBounds i true) a w) → K' a w) → if Region.wanted o (yielded l.toArray a.tmps) = true then Oper.wp P o a w K' Q else K' (a.put o.dst undef) w) :
    wpAnyH P md l.toArray Q S (fuel + 1) listed a w :=
  wpAnyH_ready hr (by simp) (AllReadyH.cons (by rw [List.getElem?_toArray]; exact ho) h AllReadyH.nil)
theorem H_two {l : List Oper} {i j : Nat} {o o' : Oper} {fuel : Nat} {listed : Array Bool} {a : Act} {w : World} (hr : Region.ready md l.toArray listed = [i, j]) (ho : l[i]? = some o) (ho' : l[j]? = some o')
    (h : ∀ K' : Act → World → Prop, Shut (∀ a w, S w → (S w → wpAnyH P md l.toArray Q S fuel (listed.setIfInBounds i true) a w) → K' a w) → if Region.wanted o (yielded l.toArray a.tmps) = true then Oper.wp P o a w K' Q else K' (a.put o.dst undef) w)
    (h' : ∀ K' : Act → World → Prop, Shut (∀ a w, S w → (S w → wpAnyH P md l.toArray Q S fuel (listed.setIfInBounds j true) a w) → K' a w) → if Region.wanted o' (yielded l.toArray a.tmps) = true then Oper.wp P o' a w K' Q else K' (a.put o'.dst undef) w) :
    wpAnyH P md l.toArray Q S (fuel + 1) listed a w :=
  wpAnyH_ready hr (by simp) (AllReadyH.cons (by rw [List.getElem?_toArray]; exact ho) h (AllReadyH.cons (by rw [List.getElem?_toArray]; exact ho') h' AllReadyH.nil))
theorem H_take {l : List Oper} {i : Nat} {oi : Oper} {v : Value} {fuel : Nat} {listed : Array Bool} {a : Act} {w : World} (hi : l[i]? = some oi)
    (hs : Region.noSelect l.toArray = true) (hf : Region.free md l.toArray listed i = true) (hr : (Region.ready md l.toArray listed).contains i = true)
    (hQ : ∀ c a w, Q (.panic c) (a.put oi.dst v) w → Q (.panic c) a w) (hy : YieldsIf P l.toArray S oi v a) (hS : S w)
    (h : wpAnyH P md l.toArray Q S fuel (listed.setIfInBounds i true) (a.put oi.dst v) w) : wpAnyH P md l.toArray Q S (fuel + 1) listed a w :=
  wpAnyH_take (by rw [List.getElem?_toArray]; exact hi) hs hf hr hQ hy hS h
end
namespace Cp
def epRel (w0 : World) (rb : Nat) (n : Nat) (ve vi : Value) (wr : World) : Prop :=
  ∃ (i : Nat) (a : EAt) (E : En) (b : RAt) (R : List Rp) (F : En), i ≤ n ∧ vi = .int .i64 i ∧ ve = .pointer (some ⟨a.eb, 0, none⟩) ∧ EPair w0 wr a E b R F ∧ En.Like E F ∧ b.eb = rb
/-- The copy takes the other one's place. -/
theorem EPair_swap {w0 w w' : World} {a a' : EAt} {E E' : En} {b : RAt} {R : List Rp} {F : En} (h : EPair w0 w a E b R F) (he : Env w' a' E') (hb : Below w.heap.size w w') (hf : ∀ k, a'.foot E'.A k → w.heap.size ≤ k) : EPair w0 w' a' E' b R F :=
  ⟨he, h.ren.below hb, fun k hk g => by have := hf k hk; have := h.ren.lt k g; omega, h.bel.trans (hb.mono h.bel.size), fun k hk => Nat.le_trans h.bel.size (hf k hk), h.b0⟩
/-- An act on the other one is not felt. -/
theorem EPair_aside {w0 w w' : World} {a a1 a2 : EAt} {E E1 E2 : En} {b : RAt} {R : List Rp} {F : En} (h : EPair w0 w a E b R F) (s : EStep w w' a1 E1 a2 E2) (h1 : ∀ k, a1.foot E1.A k → ¬ a.foot E.A k ∧ ¬ b.foot R k ∧ w0.heap.size ≤ k) : EPair w0 w' a E b R F :=
  ⟨h.env.keep s.mod fun k hk g => (h1 k g).1 hk, h.ren.keep s.mod fun k hk g => (h1 k g).2.1 hk, h.apart, s.mod.below h.bel h.bel.size fun i _ hi => (h1 i hi).2.2, h.a0, h.b0⟩
theorem neState (k n y : Int) (w : World) : (binOp .neq 75 (.agg #[.int .u8 k, .int .u32 n, .int .i64 y]) (.agg #[.int .u8 k, .int .u32 n, .int .i64 y])).run Tryz.prog w = .ok (.bool false) w := by
  simp [go_sem, Tryz.underlying75]
/-- The other one, that is played with. -/
structure Old (w0 w : World) (a1 : EAt) (E1 : En) (a : EAt) (E : En) (b : RAt) (R : List Rp) : Prop where
  env : Env w a1 E1
  out : ∀ k, a1.foot E1.A k → ¬ a.foot E.A k ∧ ¬ b.foot R k ∧ w0.heap.size ≤ k
theorem Old.act {w0 w w' : World} {a a1 a2 : EAt} {E E1 E2 : En} {b : RAt} {R : List Rp} {F : En} (h : EPair w0 w a E b R F) (o : Old w0 w a1 E1 a E b R) (s : EStep w w' a1 E1 a2 E2) : EPair w0 w' a E b R F ∧ Old w0 w' a2 E2 a E b R :=
  ⟨EPair_aside h s o.out, s.env, fun k hk => by
    rcases s.foot k hk with q | q
    · exact o.out k q
    · exact ⟨fun g => by have := h.env.lt k g; omega, fun g => by have := h.ren.lt k g; omega, Nat.le_trans h.bel.size q⟩⟩
set_option maxRecDepth 100000 in
set_option maxHeartbeats 16000000 in
theorem envPlays (w : World) (num : Int) (m0 : -9223372036854775808 ≤ num) (m1 : num ≤ 9223372036854775807) (x : St) (hp : x.pre w) (a1 : Option Addr) (len1 cap1 : Nat) (Z1 : Nat → ActR) (hZ1 : Acts w a1 len1 Z1) (hl1 : len1 ≤ 9223372036854775807) :
    Calls Tryz.prog 4 #[.int .i64 num, .agg x.cells, .slice a1 len1 cap1] w fun e w' => e = .returned (.bool true) ∧ Below w.heap.size w w' := by
  have hb : Below w.heap.size w (w.alloc (.cells x.cells 37)) := (Below.refl _ _).alloc (Nat.le_refl _) _
  have hbx : StBox (w.alloc (.cells x.cells 37)) w.heap.size x := ⟨heap_alloc_new w _⟩
  have HZ1 := Lib.hid hZ1
  have HHv1 := Lib.hid fun V (hV : Below w.heap.size w V) => heavy21 V x a1 len1 cap1 Z1 ⟨fun hn => by
    obtain ⟨b, off, e, hc⟩ := hZ1.at' hn
    exact ⟨b, off, e, fun i hi => (hc i hi).below hV⟩, hZ1.ok⟩ hl1
  have hmade : heavyV x = false → ∀ V, Below w.heap.size w V → Calls Tryz.prog 21 #[.int .i64 num, .agg x.cells] V (Made21 V num x) := fun hh V hV => made21 V num x (hp.toOk hV hh)
  have HMd := Lib.hid hmade
  have HB := Lib.hid hb
  have HBx := Lib.hid hbx
  obtain ⟨b0, b1, b2, b3, b4, b5, b6⟩ := hbx.cells
  clear hmade hb hbx hp hZ1
  unfold St.cells at *
  go_enter Tryz.func4, Tryz.ntmps4
  go_wp2_with fail
  refine (HHv1.out _ HB.out).mono ?_
  rintro e w1 ⟨h1, rfl, hh1, hb1⟩
  have HB1 := Lib.hid (below_th HB.out hb1)
  have hbx1 := HBx.out.below hb1 (by simp)
  have HBx1 := Lib.hid hbx1
  obtain ⟨b0, b1, b2, b3, b4, b5, b6⟩ := hbx1.cells
  have HH1 := Lib.hid hh1
  clear hb1 hh1 hbx1 HHv1 HBx
  cases h1 with
  | true =>
    go_wp2_with fail
    refine (alive21 _).mono ?_
    rintro e w2 ⟨rfl, hb2⟩
    have HB2 := Lib.hid (below_th HB1.out hb2)
    clear hb2
    go_wp2
    go_ret
    exact ⟨rfl, HB2.out⟩
  | false =>
    have HMm := Lib.hid (HMd.out (HH1.out (by first | rfl | trivial)).1 w1 HB1.out)
    have hln1 := (HH1.out (by first | rfl | trivial)).2
    clear HMd HH1
    by_cases hn : 1 ≤ num ∧ num ≤ 8
    · go_wp2_with fail
      refine HMm.out.mono ?_
      rintro e w3 hm3
      unfold Made21 at hm3
      rw [if_pos hn] at hm3
      obtain ⟨a, E, b, R, F, rfl, hep, hlk, _⟩ := hm3
      have HP := Lib.hid (hep.weaken HB1.out)
      have HL := Lib.hid hlk
      clear hep hlk b0 b1 b2 b3 b4 b5 b6 HMm
      go_wp2
      obtain ⟨rb, hrb⟩ : ∃ e, b.eb = e := ⟨_, rfl⟩
      have HEb := Lib.hid hrb
      rw [hrb]
      clear hrb
      go_loopw [7, 10, 11] (fun ve vi _ wr => epRel w rb len1 ve vi wr) (fun _ vi _ _ => len1 - (intOf vi).toNat)
      case atStart => exact ⟨0, a, E, b, R, F, Nat.zero_le _, by go_num, rfl, HP.out, HL.out, HEb.out⟩
      case round =>
        clear HP HL HEb
        obtain ⟨i, a, E, b, R, F, hi, rfl, rfl, hp, hl, rfl⟩ := hrel
        have HP := Lib.hid hp
        have HL := Lib.hid hl
        clear hp hl
        by_cases hin : i < len1
        · obtain ⟨ab, ao, rfl, hc⟩ := HZ1.out.at' (by omega)
          have hac := (hc i hin).below HP.out.bel
          have HAc := Lib.hid fun V (hV : Below w.heap.size w V) => (hc i hin).below hV
          have HOk := Lib.hid (HZ1.out.ok i hin)
          generalize Z1 i = z at *
          have z0 := hac.dod
          have z1 := hac.n
          have z2 := hac.m
          have z3 := hac.text
          clear hac hc HZ1 HB HB1 b0 b1 b2 b3 b4 b5 b6
          by_cases e6 : z.dod = 6
          case' pos =>
            rw [e6] at z0
            have hN0 := HOk.out.n0
            have hN1 := HOk.out.n1
            go_wp2_with fail
            refine (Ev.copy HP.out.env).mono ?_
            rintro e w4 ⟨a4, E4, rfl, he4, hl4, hf4, hb4⟩
            have HP4 := Lib.hid (EPair_swap HP.out he4 hb4 hf4)
            have HL4 := Lib.hid (hl4.trans HL.out)
            have HO4 : Hid (Old w w4 a E a4 E4 b R) := Lib.hid ⟨HP.out.env.below hb4, fun k hk => ⟨fun g => by have := hf4 k g; have := HP.out.env.lt k hk; omega, HP.out.apart k hk, HP.out.a0 k hk⟩⟩
            have zz := HAc.out _ HP4.out.bel
            replace z0 := zz.dod
            rw [e6] at z0
            replace z1 := zz.n
            replace z2 := zz.m
            replace z3 := zz.text
            clear he4 hl4 hf4 hb4 zz HP HL
            go_wp2_with fail
            refine (Ev.space HP4.out.env).mono ?_
            rintro e w5 ⟨rfl, rfl⟩
            go_wp2_with fail
            refine (Ev.cpu HP4.out.env).mono ?_
            rintro e w5 ⟨rfl, rfl⟩
            go_wp2_with fail
            refine (Ev.step HO4.out.env).mono ?_
            rintro e w5 ⟨rfl, hs5⟩
            have HX5 := Lib.hid (Old.act HP4.out HO4.out hs5)
            have heb5 := hs5.same.1
            have zz := HAc.out _ HX5.out.1.bel
            replace z0 := zz.dod
            rw [e6] at z0
            replace z1 := zz.n
            replace z2 := zz.m
            replace z3 := zz.text
            clear hs5 zz HP4 HO4
            have hpg := Ev.page HX5.out.2.env z.n hN0 hN1
            rw [heb5] at hpg
            have HPg := Lib.hid hpg
            clear hpg
            go_wp2_with fail
            refine HPg.out.mono ?_
            rintro e w6 ⟨blk6, lv6, rfl, hs6⟩
            have HX6 := Lib.hid (Old.act HX5.out.1 HX5.out.2 hs6)
            have heb6 := hs6.same.1
            have zz := HAc.out _ HX6.out.1.bel
            replace z0 := zz.dod
            rw [e6] at z0
            replace z1 := zz.n
            replace z2 := zz.m
            replace z3 := zz.text
            clear hs6 zz HX5 HPg
            have hpg := Ev.put HX6.out.2.env ⟨#[120]⟩ (by decide)
            try rw [heb6] at hpg
            have HPg := Lib.hid hpg
            clear hpg
            go_wp2_with fail
            refine HPg.out.mono ?_
            rintro e w7 ⟨rfl, hs7⟩
            have HX7 := Lib.hid (Old.act HX6.out.1 HX6.out.2 hs7)
            have zz := HAc.out _ HX7.out.1.bel
            replace z0 := zz.dod
            rw [e6] at z0
            replace z1 := zz.n
            replace z2 := zz.m
            replace z3 := zz.text
            clear hs7 zz HX6 HPg
            have hpg := Ev.answer HX7.out.2.env 7 7 (by omega) (by omega) (by omega) (by omega)
            try rw [heb6] at hpg
            have HPg := Lib.hid hpg
            clear hpg
            go_wp2_with fail
            refine HPg.out.mono ?_
            rintro e w8 ⟨rfl, hs8⟩
            have HX8 := Lib.hid (Old.act HX7.out.1 HX7.out.2 hs8)
            have zz := HAc.out _ HX8.out.1.bel
            replace z0 := zz.dod
            rw [e6] at z0
            replace z1 := zz.n
            replace z2 := zz.m
            replace z3 := zz.text
            clear hs8 zz HX7 HPg
            have hpg := Ev.exit HX8.out.2.env 7
            try rw [heb6] at hpg
            have HPg := Lib.hid hpg
            clear hpg
            go_wp2_with fail
            refine HPg.out.mono ?_
            rintro e w9 ⟨rfl, hs9⟩
            have HX9 := Lib.hid (Old.act HX8.out.1 HX8.out.2 hs9)
            have zz := HAc.out _ HX9.out.1.bel
            replace z0 := zz.dod
            replace z1 := zz.n
            replace z2 := zz.m
            replace z3 := zz.text
            clear hs9 zz HX8 HPg heb5 heb6
            have HP := Lib.hid HX9.out.1
            have HL := Lib.hid HL4.out
            clear HX9 HL4
            have hD := fun V (hV : Below w9.heap.size w9 V) => does21 (HP.out.below hV) HL.out z HOk.out
            unfold ActR.cells Does21 at hD
            simp only [e6] at hD
            obtain ⟨eb, heb⟩ : ∃ q, a4.eb = q := ⟨_, rfl⟩
            rw [heb] at hD ⊢
            have HD := Lib.hid hD
            clear hD heb
            go_wp2_with fail
          case' neg =>
            have d6 : (z.dod == 6) = false := beq_eq_false_iff_ne.2 e6
            clear e6
            have hD := fun V (hV : Below wr.heap.size wr V) => does21 (HP.out.below hV) HL.out z HOk.out
            unfold ActR.cells Does21 at hD
            obtain ⟨eb, heb⟩ : ∃ q, a.eb = q := ⟨_, rfl⟩
            rw [heb] at hD ⊢
            have HD := Lib.hid hD
            clear hD heb
            go_wp2_with fail
          all_goals
            obtain ⟨q, hq⟩ : ∃ q : Nat, Int.tmod (i : Int) 20 = q := ⟨i % 20, rfl⟩
            have q1 : q < 20 := by have := hq; rw [show Int.tmod (i : Int) 20 = ((i % 20 : Nat) : Int) from rfl] at this; omega
            have qw : IntKind.i64.wrap ((q : Int) - 2) = (q : Int) - 2 := by rw [IntKind.wrap_i64]; omega
            have i0 : (0 : Int) ≤ i := by omega
            have i1 : (i : Int) ≤ len1 := by omega
            have i2 : (i : Int) < len1 := by omega
            have ne := fun kd cd wy W => neState kd cd wy W
            clear HP
            -- region 21
            refine wp_region_held (S := fun _ => True) (by kernel_rfl) ?_
            refine H_take (i := 0) (v := ?_) rfl (by kernel_rfl) (by kernel_rfl) (by kernel_rfl) (fun _ _ _ h => h) (Or.inl ⟨by rfl, ?_⟩) trivial ?_
            rotate_left
            · intro W hW; clear hW; go_simp; try with_reducible rfl
            try simp only [Act.put, List.getElem_toArray, List.getElem_cons_succ, List.getElem_cons_zero, List.setIfInBounds_toArray, List.set_cons_zero, List.set_cons_succ]
            refine H_take (i := 1) (v := ?_) rfl (by kernel_rfl) (by kernel_rfl) (by kernel_rfl) (fun _ _ _ h => h) (Or.inl ⟨by rfl, ?_⟩) trivial ?_
            rotate_left
            · intro W hW; clear hW; go_simp; try with_reducible rfl
            try simp only [Act.put, List.getElem_toArray, List.getElem_cons_succ, List.getElem_cons_zero, List.setIfInBounds_toArray, List.set_cons_zero, List.set_cons_succ]
            refine H_take (i := 2) (v := ?_) rfl (by kernel_rfl) (by kernel_rfl) (by kernel_rfl) (fun _ _ _ h => h) (Or.inl ⟨by rfl, ?_⟩) trivial ?_
            rotate_left
            · intro W hW; clear hW; go_simp; try with_reducible rfl
            try simp only [Act.put, List.getElem_toArray, List.getElem_cons_succ, List.getElem_cons_zero, List.setIfInBounds_toArray, List.set_cons_zero, List.set_cons_succ]
            refine H_take (i := 3) (v := ?_) rfl (by kernel_rfl) (by kernel_rfl) (by kernel_rfl) (fun _ _ _ h => h) (Or.inl ⟨by rfl, ?_⟩) trivial ?_
            rotate_left
            · intro W hW; clear hW; go_simp; try with_reducible rfl
            try simp only [Act.put, List.getElem_toArray, List.getElem_cons_succ, List.getElem_cons_zero, List.setIfInBounds_toArray, List.set_cons_zero, List.set_cons_succ]
            refine H_one (i := 4) (by kernel_rfl) rfl (fun K hK => ?_)
            go_simp
            refine hK.out _ _ trivial (fun _ => ?_)
            clear hK K
            try simp only [Act.put, List.getElem_toArray, List.getElem_cons_succ, List.getElem_cons_zero, List.setIfInBounds_toArray, List.set_cons_zero, List.set_cons_succ]
            refine H_one (i := 5) (by kernel_rfl) rfl (fun K hK => ?_)
            go_simp
            refine hK.out _ _ trivial (fun _ => ?_)
            clear hK K
            try simp only [Act.put, List.getElem_toArray, List.getElem_cons_succ, List.getElem_cons_zero, List.setIfInBounds_toArray, List.set_cons_zero, List.set_cons_succ]
            refine H_one (i := 6) (by kernel_rfl) rfl (fun K hK => ?_)
            go_simp
            go_at_call 30
            refine (HD.out _ (Below.refl _ _).drew).mono ?_
            rintro e x1 ⟨a5, E5, b5, R5, F5, rfl, hp5, hl5, ha5, hb5⟩
            refine hK.out _ _ trivial (fun _ => ?_)
            clear hK K
            try simp only [Act.put, List.getElem_toArray, List.getElem_cons_succ, List.getElem_cons_zero, List.setIfInBounds_toArray, List.set_cons_zero, List.set_cons_succ]
            have HP5 := Lib.hid hp5
            have HL5 := Lib.hid hl5
            have HA5 := Lib.hid ha5
            have HB5 := Lib.hid hb5
            have hS1 : ∀ V, Below x1.heap.size x1 V → V.cell? ⟨b.eb, 3, none⟩ = some (.int .u8 E5.kind) ∧ V.cell? ⟨b.eb, 4, none⟩ = some (.int .u32 E5.code) ∧ V.cell? ⟨b.eb, 5, none⟩ = some (.int .i64 E5.why) := fun V hV => by
              obtain ⟨_, _, _, q3, q4, q5, _⟩ := Rv.cells (hp5.ren.below hV)
              rw [hb5] at q3 q4 q5
              rw [← hl5.kind] at q3
              rw [← hl5.code] at q4
              rw [← hl5.why] at q5
              exact ⟨q3, q4, q5⟩
            have HS1 := Lib.hid hS1
            have HState := Lib.hid (by have := Ev.state hp5.env; rw [ha5] at this; exact this : Calls Tryz.prog 31 #[.pointer (some ⟨eb, 0, none⟩)] x1 _)
            have HArg := Lib.hid fun V (hV : Below x1.heap.size x1 V) => (by have := Ev.arg (hp5.env.below hV) ((q : Int) - 2) (by omega) (by omega); rw [ha5] at this; exact this : Calls Tryz.prog 32 #[.pointer (some ⟨eb, 0, none⟩), .int .i64 ((q : Int) - 2)] V _)
            have HRarg := Lib.hid fun V (hV : Below x1.heap.size x1 V) => (by have := Rv.arg (hp5.ren.below hV) ((q : Int) - 2) (by omega) (by omega); rw [hb5, ← hl5.arg] at this; exact this : Calls Tryz.prog 33 #[.pointer (some ⟨b.eb, 0, none⟩), .int .i64 ((q : Int) - 2)] V _)
            have h1 := hS1 x1 (Below.refl _ _)
            clear hp5 hl5 ha5 hb5 hS1
            refine H_take (i := 7) (v := ?_) rfl (by kernel_rfl) (by kernel_rfl) (by kernel_rfl) (fun _ _ _ h => h) (Or.inl ⟨by rfl, ?_⟩) trivial ?_
            rotate_left
            · intro W hW; clear hW; go_simp; try with_reducible rfl
            try simp only [Act.put, List.getElem_toArray, List.getElem_cons_succ, List.getElem_cons_zero, List.setIfInBounds_toArray, List.set_cons_zero, List.set_cons_succ]
            refine H_take (i := 8) (v := ?_) rfl (by kernel_rfl) (by kernel_rfl) (by kernel_rfl) (fun _ _ _ h => h) (Or.inl ⟨by rfl, ?_⟩) trivial ?_
            rotate_left
            · intro W hW; clear hW; go_simp; try with_reducible rfl
            try simp only [Act.put, List.getElem_toArray, List.getElem_cons_succ, List.getElem_cons_zero, List.setIfInBounds_toArray, List.set_cons_zero, List.set_cons_succ]
            refine H_mono (T := fun w' => w'.cell? ⟨b.eb, 3, none⟩ = some (.int .u8 E5.kind) ∧ w'.cell? ⟨b.eb, 4, none⟩ = some (.int .u32 E5.code) ∧ w'.cell? ⟨b.eb, 5, none⟩ = some (.int .i64 E5.why)) (fun _ _ => trivial) _ _ _ _ ?_
            refine H_take (i := 9) (v := ?_) rfl (by kernel_rfl) (by kernel_rfl) (by kernel_rfl) (fun _ _ _ h => h) (Or.inl ⟨by rfl, ?_⟩) h1 ?_
            rotate_left
            · intro W hW; obtain ⟨k0, k1, k2⟩ := hW; go_simp; try with_reducible rfl
            try simp only [Act.put, List.getElem_toArray, List.getElem_cons_succ, List.getElem_cons_zero, List.setIfInBounds_toArray, List.set_cons_zero, List.set_cons_succ]
            refine H_take (i := 11) (v := ?_) rfl (by kernel_rfl) (by kernel_rfl) (by kernel_rfl) (fun _ _ _ h => h) (Or.inl ⟨by rfl, ?_⟩) h1 ?_
            rotate_left
            · intro W hW; obtain ⟨k0, k1, k2⟩ := hW; go_simp; try with_reducible rfl
            try simp only [Act.put, List.getElem_toArray, List.getElem_cons_succ, List.getElem_cons_zero, List.setIfInBounds_toArray, List.set_cons_zero, List.set_cons_succ]
            refine H_take (i := 12) (v := ?_) rfl (by kernel_rfl) (by kernel_rfl) (by kernel_rfl) (fun _ _ _ h => h) (Or.inl ⟨by rfl, ?_⟩) h1 ?_
            rotate_left
            · intro W hW; obtain ⟨k0, k1, k2⟩ := hW; go_simp; try with_reducible rfl
            try simp only [Act.put, List.getElem_toArray, List.getElem_cons_succ, List.getElem_cons_zero, List.setIfInBounds_toArray, List.set_cons_zero, List.set_cons_succ]
            refine H_take (i := 13) (v := ?_) rfl (by kernel_rfl) (by kernel_rfl) (by kernel_rfl) (fun _ _ _ h => h) (Or.inl ⟨by rfl, ?_⟩) h1 ?_
            rotate_left
            · intro W hW; obtain ⟨k0, k1, k2⟩ := hW; go_simp; try with_reducible rfl
            try simp only [Act.put, List.getElem_toArray, List.getElem_cons_succ, List.getElem_cons_zero, List.setIfInBounds_toArray, List.set_cons_zero, List.set_cons_succ]
            refine H_take (i := 14) (v := ?_) rfl (by kernel_rfl) (by kernel_rfl) (by kernel_rfl) (fun _ _ _ h => h) (Or.inl ⟨by rfl, ?_⟩) h1 ?_
            rotate_left
            · intro W hW; obtain ⟨k0, k1, k2⟩ := hW; go_simp; try with_reducible rfl
            try simp only [Act.put, List.getElem_toArray, List.getElem_cons_succ, List.getElem_cons_zero, List.setIfInBounds_toArray, List.set_cons_zero, List.set_cons_succ]
            refine H_one (i := 10) (by kernel_rfl) rfl (fun K hK => ?_)
            go_simp
            go_at_call 31
            refine HState.out.mono ?_
            rintro e x2 ⟨rfl, hx2⟩
            have h2 := HS1.out x2 hx2
            have HX2 := Lib.hid hx2
            clear hx2
            refine hK.out _ _ h2 (fun _ => ?_)
            clear hK K
            try simp only [Act.put, List.getElem_toArray, List.getElem_cons_succ, List.getElem_cons_zero, List.setIfInBounds_toArray, List.set_cons_zero, List.set_cons_succ]
            refine H_take (i := 15) (v := ?_) rfl (by kernel_rfl) (by kernel_rfl) (by kernel_rfl) (fun _ _ _ h => h) (Or.inl ⟨by rfl, ?_⟩) h2 ?_
            rotate_left
            · intro W hW; obtain ⟨k0, k1, k2⟩ := hW; go_simp; try with_reducible rfl
            try simp only [Act.put, List.getElem_toArray, List.getElem_cons_succ, List.getElem_cons_zero, List.setIfInBounds_toArray, List.set_cons_zero, List.set_cons_succ]
            refine H_take (i := 16) (v := ?_) rfl (by kernel_rfl) (by kernel_rfl) (by kernel_rfl) (fun _ _ _ h => h) (Or.inl ⟨by rfl, ?_⟩) h2 ?_
            rotate_left
            · intro W hW; obtain ⟨k0, k1, k2⟩ := hW; go_simp; try with_reducible rfl
            try simp only [Act.put, List.getElem_toArray, List.getElem_cons_succ, List.getElem_cons_zero, List.setIfInBounds_toArray, List.set_cons_zero, List.set_cons_succ]
            refine H_take (i := 17) (v := ?_) rfl (by kernel_rfl) (by kernel_rfl) (by kernel_rfl) (fun _ _ _ h => h) (Or.inl ⟨by rfl, ?_⟩) h2 ?_
            rotate_left
            · intro W hW; obtain ⟨k0, k1, k2⟩ := hW; go_simp; try with_reducible rfl
            try simp only [Act.put, List.getElem_toArray, List.getElem_cons_succ, List.getElem_cons_zero, List.setIfInBounds_toArray, List.set_cons_zero, List.set_cons_succ]
            refine H_take (i := 18) (v := ?_) rfl (by kernel_rfl) (by kernel_rfl) (by kernel_rfl) (fun _ _ _ h => h) (Or.inl ⟨by rfl, ?_⟩) h2 ?_
            rotate_left
            · intro W hW; obtain ⟨k0, k1, k2⟩ := hW; go_simp; try with_reducible rfl
            try simp only [Act.put, List.getElem_toArray, List.getElem_cons_succ, List.getElem_cons_zero, List.setIfInBounds_toArray, List.set_cons_zero, List.set_cons_succ]
            refine H_take (i := 19) (v := ?_) rfl (by kernel_rfl) (by kernel_rfl) (by kernel_rfl) (fun _ _ _ h => h) (Or.inl ⟨by rfl, ?_⟩) h2 ?_
            rotate_left
            · intro W hW; obtain ⟨k0, k1, k2⟩ := hW; go_simp; try with_reducible rfl
            try simp only [Act.put, List.getElem_toArray, List.getElem_cons_succ, List.getElem_cons_zero, List.setIfInBounds_toArray, List.set_cons_zero, List.set_cons_succ]
            refine H_take (i := 20) (v := ?_) rfl (by kernel_rfl) (by kernel_rfl) (by kernel_rfl) (fun _ _ _ h => h) (Or.inl ⟨by rfl, ?_⟩) h2 ?_
            rotate_left
            · intro W hW; obtain ⟨k0, k1, k2⟩ := hW; go_simp; try with_reducible rfl
            try simp only [Act.put, List.getElem_toArray, List.getElem_cons_succ, List.getElem_cons_zero, List.setIfInBounds_toArray, List.set_cons_zero, List.set_cons_succ]
            refine H_take (i := 21) (v := ?_) rfl (by kernel_rfl) (by kernel_rfl) (by kernel_rfl) (fun _ _ _ h => h) (Or.inl ⟨by rfl, ?_⟩) h2 ?_
            rotate_left
            · intro W hW; obtain ⟨k0, k1, k2⟩ := hW; go_simp; try with_reducible rfl
            try simp only [Act.put, List.getElem_toArray, List.getElem_cons_succ, List.getElem_cons_zero, List.setIfInBounds_toArray, List.set_cons_zero, List.set_cons_succ]
            refine H_take (i := 23) (v := ?_) rfl (by kernel_rfl) (by kernel_rfl) (by kernel_rfl) (fun _ _ _ h => h) (Or.inl ⟨by rfl, ?_⟩) h2 ?_
            rotate_left
            · intro W hW; obtain ⟨k0, k1, k2⟩ := hW; go_simp; try with_reducible rfl
            try simp only [Act.put, List.getElem_toArray, List.getElem_cons_succ, List.getElem_cons_zero, List.setIfInBounds_toArray, List.set_cons_zero, List.set_cons_succ]
            refine H_take (i := 24) (v := ?_) rfl (by kernel_rfl) (by kernel_rfl) (by kernel_rfl) (fun _ _ _ h => h) (Or.inl ⟨by rfl, ?_⟩) h2 ?_
            rotate_left
            · intro W hW; obtain ⟨k0, k1, k2⟩ := hW; go_simp; try with_reducible rfl
            try simp only [Act.put, List.getElem_toArray, List.getElem_cons_succ, List.getElem_cons_zero, List.setIfInBounds_toArray, List.set_cons_zero, List.set_cons_succ]
            refine H_take (i := 25) (v := ?_) rfl (by kernel_rfl) (by kernel_rfl) (by kernel_rfl) (fun _ _ _ h => h) (Or.inl ⟨by rfl, ?_⟩) h2 ?_
            rotate_left
            · intro W hW; obtain ⟨k0, k1, k2⟩ := hW; go_simp; try with_reducible rfl
            try simp only [Act.put, List.getElem_toArray, List.getElem_cons_succ, List.getElem_cons_zero, List.setIfInBounds_toArray, List.set_cons_zero, List.set_cons_succ]
            refine H_take (i := 26) (v := ?_) rfl (by kernel_rfl) (by kernel_rfl) (by kernel_rfl) (fun _ _ _ h => h) (Or.inl ⟨by rfl, ?_⟩) h2 ?_
            rotate_left
            · intro W hW; obtain ⟨k0, k1, k2⟩ := hW; go_simp; try with_reducible rfl
            try simp only [Act.put, List.getElem_toArray, List.getElem_cons_succ, List.getElem_cons_zero, List.setIfInBounds_toArray, List.set_cons_zero, List.set_cons_succ]
            refine H_one (i := 22) (by kernel_rfl) rfl (fun K hK => ?_)
            go_simp
            go_at_call 32
            refine (HArg.out _ HX2.out).mono ?_
            rintro e x3 ⟨rfl, rfl⟩
            refine hK.out _ _ h2 (fun _ => ?_)
            clear hK K
            try simp only [Act.put, List.getElem_toArray, List.getElem_cons_succ, List.getElem_cons_zero, List.setIfInBounds_toArray, List.set_cons_zero, List.set_cons_succ]
            refine H_one (i := 27) (by kernel_rfl) rfl (fun K hK => ?_)
            go_simp
            go_at_call 33
            refine (HRarg.out _ HX2.out).mono ?_
            rintro e x3 ⟨rfl, rfl⟩
            refine hK.out _ _ h2 (fun _ => ?_)
            clear hK K
            try simp only [Act.put, List.getElem_toArray, List.getElem_cons_succ, List.getElem_cons_zero, List.setIfInBounds_toArray, List.set_cons_zero, List.set_cons_succ]
            refine H_take (i := 28) (v := ?_) rfl (by kernel_rfl) (by kernel_rfl) (by kernel_rfl) (fun _ _ _ h => h) (Or.inl ⟨by rfl, ?_⟩) h2 ?_
            rotate_left
            · intro W hW; obtain ⟨k0, k1, k2⟩ := hW; go_simp; try with_reducible rfl
            try simp only [Act.put, List.getElem_toArray, List.getElem_cons_succ, List.getElem_cons_zero, List.setIfInBounds_toArray, List.set_cons_zero, List.set_cons_succ]
            refine H_take (i := 29) (v := ?_) rfl (by kernel_rfl) (by kernel_rfl) (by kernel_rfl) (fun _ _ _ h => h) (Or.inl ⟨by rfl, ?_⟩) h2 ?_
            rotate_left
            · intro W hW; obtain ⟨k0, k1, k2⟩ := hW; go_simp; try with_reducible rfl
            try simp only [Act.put, List.getElem_toArray, List.getElem_cons_succ, List.getElem_cons_zero, List.setIfInBounds_toArray, List.set_cons_zero, List.set_cons_succ]
            refine wpAnyH_done (by kernel_rfl) ?_ _
            have HPx := Lib.hid (HP5.out.below HX2.out)
            go_wp2
            exact ⟨⟨i + 1, a5, E5, b5, R5, F5, by omega, by go_num, by rw [HA5.out], HPx.out, HL5.out, HB5.out⟩, by simp [intOf]; omega⟩
        · obtain rfl : i = len1 := by omega
          go_wp2_with fail
          refine (sameE HP.out HL.out).mono ?_
          rintro e w4 ⟨rfl, hb4⟩
          have HB4 := Lib.hid (HP.out.bel.trans (hb4.mono HP.out.bel.size))
          clear hb4 HP HL
          go_wp2_with fail
          refine (alive21 _).mono ?_
          rintro e w5 ⟨rfl, hb5⟩
          have HB5 := Lib.hid (below_th HB4.out hb5)
          clear hb5
          go_wp2
          go_ret
          exact ⟨rfl, HB5.out⟩
    · go_wp2_with fail
      refine HMm.out.mono ?_
      rintro e w3 hm3
      unfold Made21 at hm3
      rw [if_neg hn] at hm3
      obtain ⟨rfl, hb3⟩ := hm3
      have HB3 := Lib.hid (below_th HB1.out hb3)
      clear hb3 HMm
      go_wp2_with fail
      refine (alive21 _).mono ?_
      rintro e w4 ⟨rfl, hb4⟩
      have HB4 := Lib.hid (below_th HB3.out hb4)
      clear hb4
      go_wp2
      go_ret
      exact ⟨rfl, HB4.out⟩
theorem envPlaysL (w : World) (num : Int) (m0 : -9223372036854775808 ≤ num) (m1 : num ≤ 9223372036854775807) (x : St) (hp : x.pre w) (a1 : Option Addr) (cap1 : Nat) (xs1 : List ActR) (sl1 : Rd.Sl w 4 actQ a1 cap1 xs1) (sz1 : xs1.length * Tryz.prog.bytesOf 60 < 140737488355328) :
    Calls Tryz.prog 4 #[.int .i64 num, .agg x.cells, .slice a1 xs1.length cap1] w fun e w' => e = .returned (.bool true) ∧ Below w.heap.size w w' := by
  have hb : Tryz.prog.bytesOf 60 = 32 := by kernel_rfl
  rw [hb] at sz1
  exact envPlays w num m0 m1 x hp a1 xs1.length cap1 _ (sl_acts sl1) (by omega)
end Cp
end Go.Proofs.YtkbhokmnbpnlbaaGreat
