/- ExoA, ExoN, ExoM, ExoL in one text. -/
import Derived.Test.YtdmoohiepnbdaaaGreatEnExoZ
import Derived.Test.YtdmoohiepnbdaaaGreatEnNicD
import Derived.Test.YtdmoohiepnbdaaaGreatEnCapZ
import Derived.Test.YtdmoohiepnbdaaaGreatEnMade06
namespace Go.Proofs.YtdmoohiepnbdaaaGreat
open Go.RowKit
set_option linter.unusedVariables false
set_option linter.unusedSimpArgs false
theorem Cz.of_knl {w : World} {a : KAt} {hp : Int} (hk : Knl w a (Kn.new hp [])) : Cz w a.c.cb a.c.mb hp [] := by
  obtain ⟨D, n, ho, hv, hs⟩ := hk.caps.map
  have hh := hk.caps.head
  obtain ⟨o, c, hoc⟩ := hk.chx.form
  rw [hoc] at hh
  exact ⟨⟨o, c, hh⟩, ⟨D, n, ho, fun x zd => by
    rw [hv, if_neg (by simp [Kn.new])]
    have hz : Cz.at' [] x = none := by
      unfold Cz.at'
      split
      · exact List.getElem?_nil
      · rfl
    rw [hz], hs⟩, fun g hg => by simp at hg⟩
namespace Ex
variable {w w' : World} {xb kb : Nat} {S : Nat → Slt} {tv : Value}
def St0P (w : World) (e : Ending) (w' : World) : Prop := e = .returned (.agg #[.int .u8 0, .int .u32 0, .int .i64 0]) ∧ Below w.heap.size w w'
theorem state_no (h : Ex w xb kb S tv) (n : Nat) (n1 : 1 ≤ n) (n8 : n ≤ 8) (hs : (S n).is = false) : Calls Tryz.prog 37 #[.pointer (some ⟨xb, 0, none⟩), .int .i64 n] w (St0P w) := by
  have HFin := Lib.hid fun V (hb : Below w.heap.size w V) => (show St0P w (.returned (.agg #[.int .u8 0, .int .u32 0, .int .i64 0])) V from ⟨rfl, hb⟩)
  generalize St0P w = PQ at *
  have hA := (Below.refl w.heap.size w).alloc (Nat.le_refl _) (.cells #[.int .u8 0, .int .u32 0, .int .i64 0] 95)
  have hx := h.below hA
  have HH := Lib.hid (hx.has n n1 n8)
  rw [hs] at HH
  have HA := Lib.hid hA
  obtain ⟨k0, k1, k2, kf⟩ := state_one (heap_alloc_new w (.cells #[.int .u8 0, .int .u32 0, .int .i64 0] 95))
  clear h hs hx hA
  go_enter Tryz.func37, Tryz.ntmps37
  go_wp2_with fail
  generalize w.alloc (.cells #[.int .u8 0, .int .u32 0, .int .i64 0] 95) = w0 at *
  refine HH.out.mono ?_
  rintro e w1 ⟨rfl, rfl⟩
  go_wp2
  refine bodyPost_ret (v := .agg #[.int .u8 0, .int .u32 0, .int .i64 0]) (by simp [results, Tryz.results37, go_sem, *]) rfl ?_
  exact HFin.out _ (((HA.out.setCell (Nat.le_refl _) _).setCell (Nat.le_refl _) _).setCell (Nat.le_refl _) _)
end Ex
def EvAt (w : World) (g o : Nat) (x : Eve) : Prop := w.cell? ⟨g, o, none⟩ = some (.int .u8 x.k) ∧ w.cell? ⟨g, o + 1, none⟩ = some (.int .i64 x.n) ∧ w.cell? ⟨g, o + 2, none⟩ = some (.string x.t) ∧ w.cell? ⟨g, o + 3, none⟩ = some (.int .u32 x.c)
theorem EvAt.below {w w' : World} {g o : Nat} {x : Eve} (h : EvAt w g o x) (hb : Below w.heap.size w w') : EvAt w' g o x := ⟨keep h.1 hb, keep h.2.1 hb, keep h.2.2.1 hb, keep h.2.2.2 hb⟩
set_option maxRecDepth 100000 in
set_option maxHeartbeats 4000000 in
theorem same_one {w : World} {g o c h : Nat} {x : Eve} (h0 : EvAt w g o x) (h1 : EvAt w h 0 x) : Calls Tryz.prog 100 #[.slice (some ⟨g, o, none⟩) 1 c, .slice (some ⟨h, 0, none⟩) 1 1] w fun e w' => e = .returned (.bool true) ∧ Below w.heap.size w w' := by
  obtain ⟨a0, a1, a2, a3⟩ := h0
  obtain ⟨b0, b1, b2, b3⟩ := h1
  have HB := Lib.hid (Below.refl w.heap.size w).drew
  go_enter Tryz.func100, Tryz.ntmps100
  go_wp2
  refine wp_loop_rounds 2 ?_
  rw [rounds_succ]
  go_wp2
  refine B (fun V => V.cell? ⟨g, o, none⟩ = some (.int .u8 x.k) ∧ V.cell? ⟨g, o + 1, none⟩ = some (.int .i64 x.n) ∧ V.cell? ⟨g, o + 2, none⟩ = some (.string x.t) ∧ V.cell? ⟨g, o + 3, none⟩ = some (.int .u32 x.c) ∧ V.cell? ⟨h, 0, none⟩ = some (.int .u8 x.k) ∧ V.cell? ⟨h, 1, none⟩ = some (.int .i64 x.n) ∧ V.cell? ⟨h, 2, none⟩ = some (.string x.t) ∧ V.cell? ⟨h, 3, none⟩ = some (.int .u32 x.c)) ⟨a0, a1, a2, a3, b0, b1, b2, b3⟩ fun wd hwd hS => ?_
  have HWd := Lib.hid hwd
  clear hwd a0 a1 a2 a3 b0 b1 b2 b3
  refine T 0 hS ?_
  refine T 1 hS ?_
  refine T 2 hS ?_
  refine T 3 hS ?_
  refine T 4 hS ?_
  refine T 5 hS ?_
  refine T 6 hS ?_
  refine T 7 hS ?_
  refine T 8 hS ?_
  refine wpAnyH_done (by kernel_rfl) ?_ _
  clear hS
  go_wp2
  rw [rounds_succ]
  go_wp2
  go_ret
  exact ⟨rfl, by rw [HWd.out]; exact HB.out⟩
namespace Ex
def exSt (n : Nat) : Cp.St := ⟨none, 0, 0, fun _ => 0, 0, some ⟨n, 0, none⟩, 2, 2, fun i => if i = 0 then 8 else 4, 256, some ⟨n + 1, 0, none⟩, 2, 2, Xt.code, 0, ByteArray.empty⟩
def exP : Array Value := #[.int .u8 8, .int .u8 4]
def exC : Array Value := #[.int .u8 32, .int .u8 1, .int .u8 0, .int .u8 0, .int .u32 7, .int .u8 50, .int .u8 0, .int .u8 0, .int .u8 0, .int .u32 1]
theorem code_ok (i : Nat) (hi : i < 2) : (Xt.code i).ok := by
  have : i = 0 ∨ i = 1 := by omega
  rcases this with rfl | rfl <;> exact ⟨by decide, by decide, by decide, by decide, by decide, by decide, by decide, by decide, by decide, by decide⟩
theorem exSt_ok {w : World} {n : Nat} (h0 : w.heap[n]? = some (.cells exP 5 (0, 0))) (h1 : w.heap[n + 1]? = some (.cells exC 148 (0, 0))) : (exSt n).ok w where
  rrow := fun h => absurd h (Nat.not_lt_zero _)
  rbd := fun i hi => absurd hi (Nat.not_lt_zero _)
  rlen := (by decide : (0 : Nat) ≤ 9223372036854775807)
  p0 := (by decide : (0 : Int) ≤ 0)
  p1 := (by decide : (0 : Int) ≤ 4294967295)
  prow := fun _ => ⟨n, 0, rfl, lt_of_block h0, fun i hi => by
    have : i = 0 ∨ i = 1 := by have : i < 2 := hi; omega
    rcases this with rfl | rfl <;> (unfold World.cell?; rw [h0]; rfl)⟩
  pbd := fun i hi => by
    show 0 ≤ (if i = 0 then (8 : Int) else 4) ∧ (if i = 0 then (8 : Int) else 4) ≤ 255
    split <;> omega
  plen := (by decide : 2 ≤ 16)
  a0 := (by decide : (0 : Int) ≤ 256)
  a1 := (by decide : (256 : Int) ≤ 65535)
  crow := fun _ => ⟨n + 1, 0, rfl, fun i hi => by
    have : i = 0 ∨ i = 1 := by have : i < 2 := hi; omega
    rcases this with rfl | rfl <;> (refine ⟨?_, ?_, ?_, ?_, ?_⟩ <;> (unfold World.cell?; rw [h1]; rfl))⟩
  cbd := fun i hi => code_ok i hi
  clen := (by decide : 2 ≤ 1000)
  w0 := (by decide : (0 : Int) ≤ 0)
  w1 := (by decide : (0 : Int) ≤ 65535)
  tlen := (by decide : ByteArray.empty.size ≤ 65536)
set_option maxRecDepth 100000 in
set_option maxHeartbeats 8000000 in
theorem alive23 (w : World) : Calls Tryz.prog 24 #[] w fun e w' => e = .returned (.bool true) ∧ Below w.heap.size w w' := by
  go_enter Tryz.func24, Tryz.ntmps24
  go_wp2_with fail
  refine (Ex.new w (hp := 9) (by decide) (by decide)).mono ?_
  rintro e w1 ⟨xb, ka, rfl, hx1, hk1, ht1, ht2, hx2, hb1⟩
  have hcz := Cz.of_knl hk1
  have hker : KerC w1 ka.kb ka.c.cb := ⟨_, hk1.head, rfl⟩
  have tcb := hk1.t2 ka.c.cb (.inl rfl)
  have tmb := hk1.t2 ka.c.mb (.inr (.inl rfl))
  have tkb := hk1.t1
  obtain ⟨hxm, hxc, hxk, hkm, hcm⟩ : xb ≠ ka.c.mb ∧ xb ≠ ka.c.cb ∧ xb ≠ ka.kb ∧ ka.kb ≠ ka.c.mb ∧ ka.c.cb ≠ ka.c.mb := by
    refine ⟨fun e => ?_, fun e => ?_, fun e => ?_, fun e => ?_, hcz.apart.1⟩
    · rw [← e, ht1] at tmb; omega
    · rw [← e, ht1] at tcb; omega
    · rw [← e, ht1] at tkb; omega
    · rw [← e, tkb] at tmb; omega
  have hml := ht2 ka.c.mb (by rw [tmb]; decide)
  clear tcb tmb tkb hk1 ht1 ht2
  generalize ka.kb = kb at *
  generalize ka.c.cb = cb at *
  generalize ka.c.mb = mb at *
  clear ka
  have HAd := Lib.hid (hx1.admit (mp := 2) (pg := 1) (cn := false) (by decide) (by decide) (by decide) (by decide) hker hcz (n := 1) rfl (by omega) (fun i i1 i2 => by omega) rfl (by decide) (by decide) hxm (fun q => by
    rcases q with q | q | ⟨g, hg, _⟩
    · exact hxc q
    · exact hxm q
    · simp at hg) hkm)
  unfold Cz.man at HAd
  have HN := Lib.hid (And.intro hxm (And.intro hxc (And.intro hxk (And.intro hkm (And.intro hcm (And.intro hml hx2))))))
  have HB1 := Lib.hid hb1
  have HK1 := Lib.hid hker
  have HZ1 := Lib.hid (And.intro (hcz.lt (k := mb) (.inr (.inl rfl))) (lt_of_block hx1.blk))
  clear hx1 hx2 hcz hker hxm hxc hxk hkm hcm hml hb1
  go_wp2_with fail
  refine HAd.out.mono ?_
  rintro e w2 ⟨he, gb, hx2, hc2, hm2, hg1, hg2⟩
  have he : e = .returned (.tuple #[.int .i64 1, .int .i64 0]) := he
  subst he
  have hk2 := HK1.out.mod hm2 fun q => q.elim HN.out.2.2.2.1 fun q => HN.out.2.2.1 q.symm
  have HX2 := Lib.hid hx2
  have HC2 := Lib.hid hc2
  have HK2 := Lib.hid hk2
  have HB2 : Hid (Below w.heap.size w w2) := Lib.hid (Mod.below HB1.out hm2 HB1.out.size fun k _ q => by rcases q with rfl | rfl; exact HN.out.2.2.2.2.2.1; exact HN.out.2.2.2.2.2.2)
  have HZ2 : Hid (mb < w2.heap.size ∧ xb < w2.heap.size) := Lib.hid ⟨Nat.lt_of_lt_of_le HZ1.out.1 hm2.size, Nat.lt_of_lt_of_le HZ1.out.2 hm2.size⟩
  have HG : Hid (gb ≠ xb ∧ gb ≠ mb) := Lib.hid ⟨fun e => by have := HZ1.out.2; omega, fun e => by have := HZ1.out.1; omega⟩
  have HFr := Lib.hid (hx2.free hk2 hc2 (show (3 : Int) ≤ 9 by decide) (by decide))
  clear hx2 hc2 hm2 hk2 hg1 hg2 HAd HK1 HB1 HZ1
  go_wp2_with fail
  refine HFr.out.mono ?_
  rintro e w3 ⟨he, hb3⟩
  have he : e = .returned (.int .u32 6) := he
  subst he
  have HX3 := Lib.hid (HX2.out.below hb3)
  have HC3 := Lib.hid (HC2.out.below hb3)
  have HK3 := Lib.hid (HK2.out.mod (Mod.of_below hb3 fun _ => False) id)
  have HB3 := Lib.hid (below_th HB2.out hb3)
  have HZ3 : Hid (mb < w3.heap.size ∧ xb < w3.heap.size) := Lib.hid ⟨Nat.lt_of_lt_of_le HZ2.out.1 hb3.size, Nat.lt_of_lt_of_le HZ2.out.2 hb3.size⟩
  clear hb3 HFr HX2 HC2 HK2 HB2 HZ2
  have ha1 : Below w3.heap.size w3 ((w3.alloc (.cells exP 5)).alloc (.cells exC 148)) := ((Below.refl _ _).alloc (Nat.le_refl _) _).alloc (by simp) _
  have hp4 := (Below.heap_alloc (w3.alloc (.cells exP 5)) (.cells exC 148) _ (lt_of_block (heap_alloc_new w3 (.cells exP 5)))).trans (heap_alloc_new w3 (.cells exP 5))
  have hc4 := heap_alloc_new (w3.alloc (.cells exP 5)) (.cells exC 148)
  rw [show (w3.alloc (.cells exP 5)).heap.size = w3.heap.size + 1 by simp] at hc4
  have HMd := Lib.hid (Cp.made _ (exSt w3.heap.size) (exSt_ok hp4 hc4))
  have HA1 := Lib.hid ha1
  unfold exSt Cp.St.cells exP exC at HMd
  unfold exP exC at HA1
  clear ha1 hp4 hc4
  go_wp2_with fail
  refine HMd.out.mono ?_
  rintro e w5 ⟨qc, qs, qm, QA, qd, qr, qlv, QR, rfl, hduo, _, hco⟩
  have hco : cores QA = cores Xt.laid := hco
  have hb5 := below_th HA1.out hduo.bel
  have HSp := Lib.hid hduo.pair.sp
  have HX5 := Lib.hid (HX3.out.below hb5)
  have HC5 := Lib.hid (HC3.out.below hb5)
  have HK5 := Lib.hid (HK3.out.mod (Mod.of_below hb5 fun _ => False) id)
  have HB5 := Lib.hid (below_th HB3.out hb5)
  have HZ5 : Hid (mb < w3.heap.size ∧ xb < w3.heap.size ∧ w3.heap.size ≤ w5.heap.size) := Lib.hid ⟨HZ3.out.1, HZ3.out.2, hb5.size⟩
  have HCo := Lib.hid hco
  have HSt := Lib.hid (HX5.out.start 1 (by omega) (by omega) rfl rfl hduo.pair.sp (by rw [Cor.len_eq hco]; decide +kernel) 256 (by decide) (by decide))
  clear hduo hco hb5 HMd HX3 HC3 HK3 HB3 HZ3 HA1
  go_wp2_with fail
  refine HSt.out.mono ?_
  rintro e w6 ⟨a, C, rfl, hx6, he6, hc6, hf6, hm6⟩
  have hE := Xt.exits (Xt.laid_pages.of (hc6.trans HCo.out)) ((1 : Nat) : Int)
  have h7 := Xt.code7 (Xt.laid_pages.of (hc6.trans HCo.out)) ((1 : Nat) : Int)
  have hdn := Xt.done (Xt.laid_pages.of (hc6.trans HCo.out)) ((1 : Nat) : Int)
  have HC6 := Lib.hid (HC5.out.mod hm6 fun k hk e => by
    rcases hk with q | q | ⟨g, hg, q⟩
    · exact HN.out.2.1 (e.symm.trans q)
    · exact HN.out.1 (e.symm.trans q)
    · simp at hg; subst hg; exact HG.out.1 (q.symm.trans e))
  have HK6 := Lib.hid (HK5.out.mod hm6 fun q => HN.out.2.2.1 q.symm)
  have hxf : ¬ a.foot (En.new ((1 : Nat) : Int) 256 C).A xb := fun q => by have := hf6 _ q; have := HZ5.out; omega
  have HRn := Lib.hid (hx6.runExit 1 (by omega) (by omega) rfl rfl he6 hE hxf)
  have HF6 : Hid (∀ k, a.foot (En.new ((1 : Nat) : Int) 256 C).A k → w3.heap.size ≤ k) := Lib.hid fun k hk => by have := hf6 k hk; have := HZ5.out; omega
  have HL6 : Hid (∀ k, a.foot (En.new ((1 : Nat) : Int) 256 C).A k → ¬ (k = cb ∨ k = mb ∨ k = gb ∨ k = kb)) := Lib.hid fun k hk q => by
    have h1 := hf6 k hk
    have h2 := HC5.out.lt (k := k)
    have h3 := HK5.out.lt
    rcases q with q | q | q | q
    · have := h2 (.inl q); omega
    · have := h2 (.inr (.inl q)); omega
    · have := h2 (.inr (.inr ⟨_, List.mem_singleton.2 rfl, q⟩)); omega
    · omega
  have HB6 : Hid (Below w.heap.size w w6) := Lib.hid (Mod.below HB5.out hm6 HB5.out.size fun k _ q => by rw [q]; exact HN.out.2.2.2.2.2.2)
  have HZ6 : Hid (mb < w3.heap.size ∧ xb < w3.heap.size ∧ w3.heap.size ≤ w6.heap.size ∧ w.heap.size ≤ w3.heap.size) := Lib.hid ⟨HZ5.out.1, HZ5.out.2.1, by have := HZ5.out.2.2; have := hm6.size; omega, by have := HN.out.2.2.2.2.2.1; have := HZ5.out.1; omega⟩
  clear hx6 he6 hc6 hf6 hm6 hE hxf HSt HX5 HC5 HK5 HB5 HZ5 HSp HCo
  go_wp2_with fail
  refine HRn.out.mono ?_
  rintro e w7 ⟨rfl, tv', he7, hx7, hr7, hm7⟩
  have hr7 : ERow w7 w6.heap.size tv' [⟨3, 1, ByteArray.empty, 7⟩] := by rw [h7] at hr7; exact hr7
  rw [h7, hdn] at he7
  have HC7 := Lib.hid (HC6.out.mod hm7 fun k hk q => by
    rcases q with q | q
    · refine HL6.out k q ?_
      rcases hk with r | r | ⟨g, hg, r⟩
      · exact .inl r
      · exact .inr (.inl r)
      · simp at hg; subst hg; exact .inr (.inr (.inl r))
    · rcases hk with r | r | ⟨g, hg, r⟩
      · exact HN.out.2.1 (q.symm.trans r)
      · exact HN.out.1 (q.symm.trans r)
      · simp at hg; subst hg; exact HG.out.1 (r.symm.trans q))
  have HK7 := Lib.hid (HK6.out.mod hm7 fun q => q.elim (fun q => HL6.out _ q (.inr (.inr (.inr rfl)))) fun q => HN.out.2.2.1 q.symm)
  have HB7 : Hid (Below w.heap.size w w7) := Lib.hid (Mod.below HB6.out hm7 HB6.out.size fun k _ q => q.elim (fun q => by have := HF6.out k q; have := HZ6.out; omega) fun q => by rw [q]; exact HN.out.2.2.2.2.2.2)
  have HZ7 : Hid (mb < w3.heap.size ∧ xb < w3.heap.size ∧ w3.heap.size ≤ w7.heap.size) := Lib.hid ⟨HZ6.out.1, HZ6.out.2.1, by have := HZ6.out.2.2.1; have := hm7.size; omega⟩
  have HX7 := Lib.hid hx7
  have HR7 := Lib.hid hr7
  have HSt7 := Lib.hid (hx7.state 1 (by omega) (by omega) rfl rfl he7)
  clear hx7 hr7 hm7 he7 h7 hdn HRn HC6 HK6 HB6 HZ6 HF6 HL6
  go_wp2_with fail
  refine HSt7.out.mono ?_
  rintro e w8 ⟨he, hb8⟩
  have he : e = .returned (.agg #[.int .u8 3, .int .u32 7, .int .i64 0]) := he
  subst he
  have hb9 := hb8.alloc hb8.size (.cells #[.int .u8 3, .int .u32 7, .int .i64 0] 95)
  have hk9 := heap_alloc_new w8 (.cells #[.int .u8 3, .int .u32 7, .int .i64 0] 95)
  have HX9 := Lib.hid (HX7.out.below hb9)
  have HC9 := Lib.hid (HC7.out.below hb9)
  have HK9 := Lib.hid (HK7.out.mod (Mod.of_below hb9 fun _ => False) id)
  have HR9 : Hid (ERow (w8.alloc (.cells #[.int .u8 3, .int .u32 7, .int .i64 0] 95)) w6.heap.size tv' [⟨3, 1, ByteArray.empty, 7⟩]) := Lib.hid (row_keep HR7.out fun k hk => hb9.block k (World.ownsRow.lt HR7.out k hk).2)
  have HB9 := Lib.hid (below_th HB7.out hb9)
  have HZ9 : Hid (mb < w3.heap.size ∧ xb < w3.heap.size ∧ w3.heap.size ≤ w8.heap.size) := Lib.hid ⟨HZ7.out.1, HZ7.out.2.1, by have := HZ7.out.2.2; have := hb8.size; omega⟩
  have HQ9 := Lib.hid hk9
  have HTr := Lib.hid (HX9.out.trace HR9.out (by simp))
  clear hb8 hb9 hk9 HSt7 HX7 HC7 HK7 HR7 HB7 HZ7
  go_wp2_with fail
  refine HTr.out.mono ?_
  rintro e w10 ⟨v', rfl, hsl, hb10⟩
  have hx10 := HX9.out.below hb10
  have hc10 := HC9.out.below hb10
  have hq10 := (hb10.block _ (lt_of_block HQ9.out)).trans HQ9.out
  have hbw := below_th HB9.out hb10
  obtain ⟨g, off, cap, rfl, hev, hgx, hgm⟩ : ∃ g off cap, v' = .slice (some ⟨g, off, none⟩) 1 cap ∧ EvAt w10 g off ⟨3, 1, ByteArray.empty, 7⟩ ∧ g ≠ xb ∧ g ≠ mb := by
    rcases hsl.2 with ⟨h0, _⟩ | ⟨g, off, cap, cur, rfl, hg, _⟩
    · cases h0
    · refine ⟨g, off, cap, rfl, ⟨?_, ?_, ?_, ?_⟩, fun e => ?_, fun e => ?_⟩
      · exact hsl.cell 0 (by decide)
      · exact hsl.cell 1 (by decide)
      · exact hsl.cell 2 (by decide)
      · exact hsl.cell 3 (by decide)
      · rw [e, hx10.blk] at hg
        exact absurd (cells_ty hg) (by decide)
      · obtain ⟨D, n, ⟨es, clock, hb, _⟩, _⟩ := hc10.map
        rw [e, hb] at hg
        cases hg
  have HRl := Lib.hid (hx10.release (g := ⟨gb, 2, false, 1⟩) rfl (HK9.out.mod (Mod.of_below hb10 fun _ => False) id) hc10 HN.out.1 HN.out.2.1)
  have HK10 := Lib.hid (HK9.out.mod (Mod.of_below hb10 fun _ => False) id)
  have HQ10 := Lib.hid hq10
  have HE10 := Lib.hid (And.intro hev (And.intro hgx hgm))
  have HB10 := Lib.hid hbw
  clear hx10 hc10 hq10 hbw hsl hb10 hev hgx hgm HX9 HC9 HK9 HR9 HB9 HQ9 HTr
  go_wp2_with fail
  refine HRl.out.mono ?_
  rintro e w11 ⟨rfl, hx11, hc11, hm11⟩
  have hk11 := HK10.out.mod hm11 fun q => q.elim HN.out.2.2.2.1 fun q => HN.out.2.2.1 q.symm
  have hq11 := (hm11.block _ (lt_of_block HQ10.out) (fun q => by have := HZ9.out; omega)).trans HQ10.out
  have hb11 := Mod.below HB10.out hm11 HB10.out.size fun k _ q => by rcases q with rfl | rfl; exact HN.out.2.2.2.2.2.1; exact HN.out.2.2.2.2.2.2
  have hgf : ¬ (g = mb ∨ g = xb) := fun q => q.elim HE10.out.2.2 HE10.out.2.1
  have hev : EvAt w11 g off ⟨3, 1, ByteArray.empty, 7⟩ := ⟨cellM hm11 HE10.out.1.1 hgf, cellM hm11 HE10.out.1.2.1 hgf, cellM hm11 HE10.out.1.2.2.1 hgf, cellM hm11 HE10.out.1.2.2.2 hgf⟩
  obtain ⟨q0, q1, q2, qf⟩ := state_one hq11
  have hal := (Below.refl w11.heap.size w11).alloc (Nat.le_refl _) (.cells #[.int .u8 3, .int .i64 1, .string ByteArray.empty, .int .u32 7] 130)
  have hka := heap_alloc_new w11 (.cells #[.int .u8 3, .int .i64 1, .string ByteArray.empty, .int .u32 7] 130)
  have HSm := Lib.hid (same_one (h := w11.heap.size) (c := cap) (hev.below hal) ⟨by unfold World.cell?; rw [hka]; rfl, by unfold World.cell?; rw [hka]; rfl, by unfold World.cell?; rw [hka]; rfl, by unfold World.cell?; rw [hka]; rfl⟩)
  have HX12 := Lib.hid fun V (hV : Below w11.heap.size w11 V) => hx11.below hV
  have HFr2 := Lib.hid fun V (hV : Below w11.heap.size w11 V) => (hx11.below hV).free (hk11.mod (Mod.of_below hV fun _ => False) id) (hc11.below hV) (by decide) (by decide)
  have HB11 := Lib.hid hb11
  have HAl := Lib.hid hal
  clear hx11 hc11 hm11 hk11 hq11 hb11 hgf hev hal hka HRl HK10 HQ10 HE10 HB10 qf
  go_wp2_with fail
  refine HSm.out.mono ?_
  rintro e w12 ⟨rfl, hb12⟩
  have HB12 := Lib.hid (below_th HAl.out hb12)
  clear hb12
  go_wp2_with fail
  refine (HFr2.out _ HB12.out).mono ?_
  rintro e w13 ⟨he, hb13⟩
  have he : e = .returned (.int .u32 9) := he
  subst he
  have HB13 := Lib.hid (below_th HB12.out hb13)
  clear hb13
  go_wp2_with fail
  refine ((HX12.out _ HB13.out).state_no 1 (by omega) (by omega) rfl).mono ?_
  rintro e w14 ⟨rfl, hb14⟩
  have HB14 := Lib.hid (below_th HB11.out (below_th HB13.out hb14))
  clear hb14
  go_wp2
  go_ret
  exact ⟨rfl, HB14.out⟩
end Ex
end Go.Proofs.YtdmoohiepnbdaaaGreat
namespace Go.Proofs.YtdmoohiepnbdaaaGreat
open Go.RowKit
set_option linter.unusedVariables false
set_option linter.unusedSimpArgs false
namespace Xn
theorem kcaps (w : World) : Calls Tryz.prog 74 #[.pointer none] w fun e w' => e = .returned (.pointer none) ∧ w = w' := by
  go_enter Tryz.func74, Tryz.ntmps74
  go_wp2
  go_ret
  exact ⟨rfl, rfl⟩
theorem knic (w : World) : Calls Tryz.prog 115 #[.pointer none] w fun e w' => e = .returned (.pointer none) ∧ w = w' := by
  go_enter Tryz.func115, Tryz.ntmps115
  go_wp2
  go_ret
  exact ⟨rfl, rfl⟩
theorem know (w : World) : Calls Tryz.prog 122 #[.pointer none] w fun e w' => e = .returned (.int .u32 0) ∧ w = w' := by
  go_enter Tryz.func122, Tryz.ntmps122
  go_wp2
  go_ret
  exact ⟨rfl, rfl⟩
theorem ktick (w : World) : Calls Tryz.prog 114 #[.pointer none] w fun e w' => e = .returned (.int .i64 1) ∧ w = w' := by
  go_enter Tryz.func114, Tryz.ntmps114
  go_wp2
  go_ret
  exact ⟨rfl, rfl⟩
theorem kblock (w : World) (i b : Int) : Calls Tryz.prog 106 #[.pointer none, .int .u32 i, .int .u32 b] w fun e w' => e = .returned (.tuple #[.string ByteArray.empty, .int .i64 1]) ∧ w = w' := by
  go_enter Tryz.func106, Tryz.ntmps106
  go_wp2
  go_ret2
  exact ⟨rfl, rfl⟩
theorem kset (w : World) (i b : Int) (s : ByteArray) : Calls Tryz.prog 121 #[.pointer none, .int .u32 i, .int .u32 b, .string s] w fun e w' => e = .returned (.int .i64 1) ∧ w = w' := by
  go_enter Tryz.func121, Tryz.ntmps121
  go_wp2
  go_ret
  exact ⟨rfl, rfl⟩
theorem cfree (w : World) : Calls Tryz.prog 120 #[.pointer none] w fun e w' => e = .returned (.int .u32 0) ∧ w = w' := by
  go_enter Tryz.func120, Tryz.ntmps120
  go_wp2
  go_ret
  exact ⟨rfl, rfl⟩
theorem ecpu (w : World) : Calls Tryz.prog 69 #[.pointer none] w fun e w' => e = .returned (.pointer none) ∧ w = w' := by
  go_enter Tryz.func69, Tryz.ntmps69
  go_wp2
  go_ret
  exact ⟨rfl, rfl⟩
theorem espace (w : World) : Calls Tryz.prog 86 #[.pointer none] w fun e w' => e = .returned (.pointer none) ∧ w = w' := by
  go_enter Tryz.func86, Tryz.ntmps86
  go_wp2
  go_ret
  exact ⟨rfl, rfl⟩
theorem econs (w : World) : Calls Tryz.prog 84 #[.pointer none] w fun e w' => e = .returned (.string ByteArray.empty) ∧ w = w' := by
  go_enter Tryz.func84, Tryz.ntmps84
  go_wp2
  go_ret
  exact ⟨rfl, rfl⟩
theorem narrive (f : ByteArray) (w : World) : Calls Tryz.prog 116 #[.pointer none, .string f] w fun e w' => e = .returned (.tuple #[.int .u16 0, .bool false, .int .i64 1]) ∧ w = w' := by
  go_enter Tryz.func116, Tryz.ntmps116
  go_wp2
  go_ret3
  exact ⟨rfl, rfl⟩
theorem kernel (w : World) : Calls Tryz.prog 105 #[.pointer none] w fun e w' => e = .returned (.pointer none) ∧ w = w' := by
  go_enter Tryz.func105, Tryz.ntmps105
  go_wp2
  go_ret
  exact ⟨rfl, rfl⟩
theorem has (w : World) (n : Int) : Calls Tryz.prog 111 #[.pointer none, .int .i64 n] w fun e w' => e = .returned (.bool false) ∧ w = w' := by
  go_enter Tryz.func111, Tryz.ntmps111
  go_wp2
  go_ret
  exact ⟨rfl, rfl⟩
theorem of (w : World) (n : Int) : Calls Tryz.prog 101 #[.pointer none, .int .i64 n] w fun e w' => e = .returned (.pointer none) ∧ w = w' := by
  go_enter Tryz.func101, Tryz.ntmps101
  go_wp2_with fail
  refine (has _ _).mono ?_
  rintro e w1 ⟨rfl, rfl⟩
  go_wp2
  go_ret
  exact ⟨rfl, rfl⟩
theorem admit (w : World) (m : Array Value) (n : Int) : Calls Tryz.prog 25 #[.pointer none, .agg m, .int .i64 n] w fun e w' => e = .returned (.tuple #[.int .i64 0, .int .i64 1]) ∧ Below w.heap.size w w' := by
  go_enter Tryz.func25, Tryz.ntmps25
  have HB := Lib.hid fun V => (Below.refl w.heap.size w).alloc (Nat.le_refl _) V
  go_wp2
  go_ret2
  exact ⟨rfl, HB.out _⟩
theorem run (w : World) (i n : Int) : Calls Tryz.prog 26 #[.pointer none, .int .i64 i, .int .i64 n] w fun e w' => e = .returned (.tuple #[.int .i64 0, .int .i64 1]) ∧ w = w' := by
  go_enter Tryz.func26, Tryz.ntmps26
  go_wp2_with fail
  refine (of _ _).mono ?_
  rintro e w1 ⟨rfl, rfl⟩
  go_wp2
  go_ret2
  exact ⟨rfl, rfl⟩
theorem start (w : World) (i : Int) (m : Value) (p : Int) : Calls Tryz.prog 31 #[.pointer none, .int .i64 i, m, .int .u32 p] w fun e w' => e = .returned (.int .i64 1) ∧ w = w' := by
  go_enter Tryz.func31, Tryz.ntmps31
  go_wp2
  go_ret
  exact ⟨rfl, rfl⟩
theorem release (w : World) (i : Int) : Calls Tryz.prog 32 #[.pointer none, .int .i64 i] w fun e w' => e = .returned (.int .i64 1) ∧ w = w' := by
  go_enter Tryz.func32, Tryz.ntmps32
  go_wp2
  go_ret
  exact ⟨rfl, rfl⟩
theorem tick (w : World) : Calls Tryz.prog 33 #[.pointer none] w fun e w' => e = .returned (.int .i64 1) ∧ w = w' := by
  go_enter Tryz.func33, Tryz.ntmps33
  go_wp2_with fail
  refine (kernel _).mono ?_
  rintro e w1 ⟨rfl, rfl⟩
  go_wp2_with fail
  refine (ktick _).mono ?_
  rintro e w1 ⟨rfl, rfl⟩
  go_wp2
  go_ret
  exact ⟨rfl, rfl⟩
theorem now (w : World) : Calls Tryz.prog 44 #[.pointer none] w fun e w' => e = .returned (.int .u32 0) ∧ w = w' := by
  go_enter Tryz.func44, Tryz.ntmps44
  go_wp2_with fail
  refine (kernel _).mono ?_
  rintro e w1 ⟨rfl, rfl⟩
  go_wp2_with fail
  refine (know _).mono ?_
  rintro e w1 ⟨rfl, rfl⟩
  go_wp2
  go_ret
  exact ⟨rfl, rfl⟩
theorem arrive (w : World) (s : ByteArray) : Calls Tryz.prog 34 #[.pointer none, .string s] w fun e w' => e = .returned (.int .i64 1) ∧ w = w' := by
  go_enter Tryz.func34, Tryz.ntmps34
  go_wp2_with fail
  refine (kernel _).mono ?_
  rintro e w1 ⟨rfl, rfl⟩
  go_wp2_with fail
  refine (knic _).mono ?_
  rintro e w1 ⟨rfl, rfl⟩
  go_wp2_with fail
  refine (narrive _ _).mono ?_
  rintro e w1 ⟨rfl, rfl⟩
  go_wp2
  go_ret
  exact ⟨rfl, rfl⟩
theorem swap (w : World) (p : Int) : Calls Tryz.prog 35 #[.pointer none, .int .u16 p] w fun e w' => e = .returned (.int .i64 1) ∧ w = w' := by
  go_enter Tryz.func35, Tryz.ntmps35
  go_wp2
  go_ret
  exact ⟨rfl, rfl⟩
theorem lose (w : World) (p : Int) : Calls Tryz.prog 36 #[.pointer none, .int .u16 p] w fun e w' => e = .returned (.int .i64 1) ∧ w = w' := by
  go_enter Tryz.func36, Tryz.ntmps36
  go_wp2
  go_ret
  exact ⟨rfl, rfl⟩
theorem state (w : World) (n : Int) : Calls Tryz.prog 37 #[.pointer none, .int .i64 n] w fun e w' => e = .returned (.agg #[.int .u8 0, .int .u32 0, .int .i64 0]) ∧ Below w.heap.size w w' := by
  go_enter Tryz.func37, Tryz.ntmps37
  have HB := Lib.hid fun V => (Below.refl w.heap.size w).alloc (Nat.le_refl _) V
  go_wp2_with fail
  refine (has _ _).mono ?_
  rintro e w1 ⟨rfl, rfl⟩
  go_wp2
  refine bodyPost_ret (v := .agg #[.int .u8 0, .int .u32 0, .int .i64 0]) (by simp [results, Tryz.results37, go_sem, *]) rfl ?_
  exact ⟨rfl, HB.out _⟩
theorem cpu (w : World) (n : Int) : Calls Tryz.prog 38 #[.pointer none, .int .i64 n] w fun e w' => e = .returned (.pointer none) ∧ w = w' := by
  go_enter Tryz.func38, Tryz.ntmps38
  go_wp2_with fail
  refine (of _ _).mono ?_
  rintro e w1 ⟨rfl, rfl⟩
  go_wp2_with fail
  refine (ecpu _).mono ?_
  rintro e w1 ⟨rfl, rfl⟩
  go_wp2
  go_ret
  exact ⟨rfl, rfl⟩
theorem space (w : World) (n : Int) : Calls Tryz.prog 39 #[.pointer none, .int .i64 n] w fun e w' => e = .returned (.pointer none) ∧ w = w' := by
  go_enter Tryz.func39, Tryz.ntmps39
  go_wp2_with fail
  refine (of _ _).mono ?_
  rintro e w1 ⟨rfl, rfl⟩
  go_wp2_with fail
  refine (espace _).mono ?_
  rintro e w1 ⟨rfl, rfl⟩
  go_wp2
  go_ret
  exact ⟨rfl, rfl⟩
theorem console (w : World) (n : Int) : Calls Tryz.prog 40 #[.pointer none, .int .i64 n] w fun e w' => e = .returned (.string ByteArray.empty) ∧ w = w' := by
  go_enter Tryz.func40, Tryz.ntmps40
  go_wp2_with fail
  refine (of _ _).mono ?_
  rintro e w1 ⟨rfl, rfl⟩
  go_wp2_with fail
  refine (econs _).mono ?_
  rintro e w1 ⟨rfl, rfl⟩
  go_wp2
  go_ret
  exact ⟨rfl, rfl⟩
theorem free (w : World) : Calls Tryz.prog 42 #[.pointer none] w fun e w' => e = .returned (.int .u32 0) ∧ w = w' := by
  go_enter Tryz.func42, Tryz.ntmps42
  go_wp2_with fail
  refine (kernel _).mono ?_
  rintro e w1 ⟨rfl, rfl⟩
  go_wp2_with fail
  refine (kcaps _).mono ?_
  rintro e w1 ⟨rfl, rfl⟩
  go_wp2_with fail
  refine (cfree _).mono ?_
  rintro e w1 ⟨rfl, rfl⟩
  go_wp2
  go_ret
  exact ⟨rfl, rfl⟩
theorem block (w : World) (i b : Int) : Calls Tryz.prog 27 #[.pointer none, .int .u32 i, .int .u32 b] w fun e w' => e = .returned (.tuple #[.string ByteArray.empty, .int .i64 1]) ∧ w = w' := by
  go_enter Tryz.func27, Tryz.ntmps27
  go_wp2_with fail
  refine (kernel _).mono ?_
  rintro e w1 ⟨rfl, rfl⟩
  go_wp2_with fail
  refine (kblock _ _ _).mono ?_
  rintro e w1 ⟨rfl, rfl⟩
  go_wp2
  go_ret2
  exact ⟨rfl, rfl⟩
theorem setBlock (w : World) (i b : Int) (s : ByteArray) : Calls Tryz.prog 43 #[.pointer none, .int .u32 i, .int .u32 b, .string s] w fun e w' => e = .returned (.int .i64 1) ∧ w = w' := by
  go_enter Tryz.func43, Tryz.ntmps43
  go_wp2_with fail
  refine (kernel _).mono ?_
  rintro e w1 ⟨rfl, rfl⟩
  go_wp2_with fail
  refine (kset _ _ _ _).mono ?_
  rintro e w1 ⟨rfl, rfl⟩
  go_wp2
  go_ret
  exact ⟨rfl, rfl⟩
theorem trace (w : World) : Calls Tryz.prog 45 #[.pointer none] w fun e w' => e = .returned (.slice none 0 0) ∧ w = w' := by
  go_enter Tryz.func45, Tryz.ntmps45
  go_wp2
  go_ret
  exact ⟨rfl, rfl⟩
theorem copy (w : World) : Calls Tryz.prog 46 #[.pointer none] w fun e w' => e = .returned (.pointer none) ∧ w = w' := by
  go_enter Tryz.func46, Tryz.ntmps46
  go_wp2
  go_ret
  exact ⟨rfl, rfl⟩
end Xn
end Go.Proofs.YtdmoohiepnbdaaaGreat
namespace Go.Proofs.YtdmoohiepnbdaaaGreat
open Go.RowKit
set_option linter.unusedVariables false
set_option linter.unusedSimpArgs false
namespace Xn
theorem cof (w : World) (n : Int) : Calls Tryz.prog 169 #[.pointer none, .int .i64 n] w fun e w' => e = .returned (.tuple #[.pointer (some ⟨w.heap.size, 0, none⟩), .bool false]) ∧ w' = w.alloc (.cells #[.int .u32 0, .slice none 0 0, .slice none 0 0, .bool false, .int .u32 0, .int .u32 0] 304) := by
  go_enter Tryz.func169, Tryz.ntmps169
  go_wp2
  go_ret2
  exact ⟨rfl, rfl⟩
theorem gcells (w : World) : (w.alloc (.cells #[.int .u32 0, .slice none 0 0, .slice none 0 0, .bool false, .int .u32 0, .int .u32 0] 304)).cell? ⟨w.heap.size, 0, none⟩ = some (.int .u32 0) ∧ (w.alloc (.cells #[.int .u32 0, .slice none 0 0, .slice none 0 0, .bool false, .int .u32 0, .int .u32 0] 304)).cell? ⟨w.heap.size, 1, none⟩ = some (.slice none 0 0) ∧ (w.alloc (.cells #[.int .u32 0, .slice none 0 0, .slice none 0 0, .bool false, .int .u32 0, .int .u32 0] 304)).cell? ⟨w.heap.size, 2, none⟩ = some (.slice none 0 0) ∧ (w.alloc (.cells #[.int .u32 0, .slice none 0 0, .slice none 0 0, .bool false, .int .u32 0, .int .u32 0] 304)).cell? ⟨w.heap.size, 3, none⟩ = some (.bool false) ∧ (w.alloc (.cells #[.int .u32 0, .slice none 0 0, .slice none 0 0, .bool false, .int .u32 0, .int .u32 0] 304)).cell? ⟨w.heap.size, 4, none⟩ = some (.int .u32 0) ∧ (w.alloc (.cells #[.int .u32 0, .slice none 0 0, .slice none 0 0, .bool false, .int .u32 0, .int .u32 0] 304)).cell? ⟨w.heap.size, 5, none⟩ = some (.int .u32 0) := by
  have hk := heap_alloc_new w (.cells #[.int .u32 0, .slice none 0 0, .slice none 0 0, .bool false, .int .u32 0, .int .u32 0] 304)
  refine ⟨?_, ?_, ?_, ?_, ?_, ?_⟩ <;> (unfold World.cell?; rw [hk]; rfl)
set_option maxRecDepth 100000 in
set_option maxHeartbeats 4000000 in
theorem cleft (w : World) (n : Int) : Calls Tryz.prog 119 #[.pointer none, .int .i64 n] w fun e w' => e = .returned (.int .u32 0) ∧ Below w.heap.size w w' := by
  have HB := Lib.hid fun V => (Below.refl w.heap.size w).alloc (Nat.le_refl _) V
  obtain ⟨g0, g1, g2, g3, g4, g5⟩ := gcells w
  go_enter Tryz.func119, Tryz.ntmps119
  go_wp2_with fail
  refine (cof _ _).mono ?_
  rintro e w1 ⟨rfl, rfl⟩
  go_wp2
  go_region
  all_goals
    go_wp2
    go_ret
    exact ⟨rfl, by first | exact HB.out _ | exact (HB.out _).drew⟩
theorem left (w : World) (n : Int) : Calls Tryz.prog 41 #[.pointer none, .int .i64 n] w fun e w' => e = .returned (.int .u32 0) ∧ Below w.heap.size w w' := by
  go_enter Tryz.func41, Tryz.ntmps41
  go_wp2_with fail
  refine (kernel _).mono ?_
  rintro e w1 ⟨rfl, rfl⟩
  go_wp2_with fail
  refine (kcaps _).mono ?_
  rintro e w1 ⟨rfl, rfl⟩
  go_wp2_with fail
  refine (cleft _ _).mono ?_
  rintro e w1 ⟨rfl, hb1⟩
  have HB := Lib.hid hb1
  clear hb1
  go_wp2
  go_ret
  exact ⟨rfl, HB.out⟩
def Mz (w : World) (b : Nat) : Prop := w.heap[b]? = some (.cells #[.int .u32 0, .slice none 0 0, .slice none 0 0, .bool false] 45 (0, 0))
theorem mcells {w : World} {b : Nat} (h : Mz w b) : w.cell? ⟨b, 0, none⟩ = some (.int .u32 0) ∧ w.cell? ⟨b, 1, none⟩ = some (.slice none 0 0) ∧ w.cell? ⟨b, 2, none⟩ = some (.slice none 0 0) ∧ w.cell? ⟨b, 3, none⟩ = some (.bool false) ∧ ∀ j, w.frozen? ⟨b, j, none⟩ = false := by
  unfold Mz at h
  refine ⟨?_, ?_, ?_, ?_, fun j => ?_⟩
  · unfold World.cell?; rw [h]; rfl
  · unfold World.cell?; rw [h]; rfl
  · unfold World.cell?; rw [h]; rfl
  · unfold World.cell?; rw [h]; rfl
  · unfold World.frozen?; rw [h]; simp
theorem Mz.keep {w w' : World} {b n : Nat} (h : Mz w b) (hb : Below n w w') (hn : b < n) : Mz w' b := (hb.block b hn).trans h
set_option maxRecDepth 100000 in
set_option maxHeartbeats 4000000 in
theorem cman (w : World) (n : Int) : Calls Tryz.prog 82 #[.pointer none, .int .i64 n] w fun e w' => e = .returned (.tuple #[.agg #[.int .u32 0, .slice none 0 0, .slice none 0 0, .bool false], .bool false]) ∧ Below w.heap.size w w' := by
  have hM0 := heap_alloc_new w (.cells #[.int .u32 0, .slice none 0 0, .slice none 0 0, .bool false] 45)
  have HB := Lib.hid ((Below.refl w.heap.size w).alloc (Nat.le_refl _) (.cells #[.int .u32 0, .slice none 0 0, .slice none 0 0, .bool false] 45))
  have hM0' : Mz (w.alloc (.cells #[.int .u32 0, .slice none 0 0, .slice none 0 0, .bool false] 45)) w.heap.size := hM0
  have HM := Lib.hid hM0'
  clear hM0 hM0'
  go_enter Tryz.func82, Tryz.ntmps82
  go_wp2_with fail
  generalize w.alloc (.cells #[.int .u32 0, .slice none 0 0, .slice none 0 0, .bool false] 45) = w0 at *
  refine (cof _ _).mono ?_
  rintro e w1 ⟨rfl, hw1⟩
  obtain ⟨g0, g1, g2, g3, g4, g5⟩ := gcells w0
  rw [← hw1] at g0 g1 g2 g3 g4 g5
  have HB1 := Lib.hid (by rw [hw1]; exact (Below.refl _ _).alloc (Nat.le_refl _) _ : Below w0.heap.size w0 w1)
  clear hw1
  go_wp2_with fail
  have hM2 : Mz (w1.alloc (.cells #[.int .u32 0, .slice none 0 0, .slice none 0 0, .bool false] 45)) w1.heap.size := heap_alloc_new w1 _
  have HB2 := Lib.hid ((Below.refl w1.heap.size w1).alloc (Nat.le_refl _) (.cells #[.int .u32 0, .slice none 0 0, .slice none 0 0, .bool false] 45))
  clear g0 g1 g2 g3 g4 g5
  generalize w1.alloc (.cells #[.int .u32 0, .slice none 0 0, .slice none 0 0, .bool false] 45) = w2 at *
  obtain ⟨d0, d1, d2, d3, df⟩ := mcells hM2
  refine B (fun W => W.cell? ⟨w1.heap.size, 1, none⟩ = some (.slice none 0 0) ∧ W.cell? ⟨w1.heap.size, 2, none⟩ = some (.slice none 0 0)) ⟨d1, d2⟩ fun wd hwd hS => ?_
  have HMd := Lib.hid (show Mz wd w1.heap.size by rw [hwd]; exact hM2)
  have HBd := Lib.hid (show Below w0.heap.size w0 wd by rw [hwd]; exact (below_th HB1.out HB2.out).drew)
  have HS1 := Lib.hid (setCell_same (i := 1) (v := .slice none 0 0) HMd.out rfl)
  have HS2 := Lib.hid (setCell_same (i := 2) (v := .slice none 0 0) HMd.out rfl)
  clear hwd d0 d1 d2 d3 df hM2
  refine T 0 hS ?_
  refine T 1 hS ?_
  refine T 3 hS ?_
  refine T 4 hS ?_
  refine U 2 fun K hK => ?_
  go_simp
  go_at_call 162
  refine (Cz.nil_ext _).mono ?_
  rintro e w5 ⟨rfl, rfl⟩
  refine V hK hS ?_; clear hK K
  refine T 6 hS ?_
  refine U 5 fun K hK => ?_
  go_simp
  go_at_call 163
  refine (Cz.nil_u16 _).mono ?_
  rintro e w5 ⟨rfl, rfl⟩
  refine V hK hS ?_; clear hK K
  obtain ⟨d0, d1, d2, d3, df⟩ := mcells HMd.out
  have df1 := df 1
  have df2 := df 2
  refine U 7 fun K hK => ?_
  go_simp
  rw [HS1.out]
  refine V hK hS ?_; clear hK K
  refine T 8 hS ?_
  refine U 9 fun K hK => ?_
  go_simp
  rw [HS2.out]
  refine V hK hS ?_; clear hK K
  refine wpAnyH_done (by kernel_rfl) ?_ _
  have hM0 := mcells (HM.out.keep HBd.out (lt_of_block HM.out))
  obtain ⟨r0, r1, r2, r3, rf⟩ := hM0
  go_wp2
  refine bodyPost_ret (v := .tuple #[.agg #[.int .u32 0, .slice none 0 0, .slice none 0 0, .bool false], .bool false]) (by simp [results, Tryz.results82, go_sem, *]) rfl ?_
  have hbw := below_th HB.out HBd.out
  exact ⟨rfl, (((hbw.setCell (Nat.le_refl _) _).setCell (Nat.le_refl _) _).setCell (Nat.le_refl _) _).setCell (Nat.le_refl _) _⟩
theorem bound (w : World) (n : Int) : Calls Tryz.prog 28 #[.pointer none, .int .i64 n] w fun e w' => e = .returned (.tuple #[.agg #[.int .u32 0, .slice none 0 0, .slice none 0 0, .bool false], .bool false]) ∧ Below w.heap.size w w' := by
  have HB0 := Lib.hid ((Below.refl w.heap.size w).alloc (Nat.le_refl _) (.cells #[.int .u32 0, .slice none 0 0, .slice none 0 0, .bool false] 45))
  have HM := Lib.hid (show Mz (w.alloc (.cells #[.int .u32 0, .slice none 0 0, .slice none 0 0, .bool false] 45)) w.heap.size from heap_alloc_new w _)
  go_enter Tryz.func28, Tryz.ntmps28
  go_wp2_with fail
  generalize w.alloc (.cells #[.int .u32 0, .slice none 0 0, .slice none 0 0, .bool false] 45) = w0 at *
  refine (kernel _).mono ?_
  rintro e w1 ⟨rfl, rfl⟩
  go_wp2_with fail
  refine (kcaps _).mono ?_
  rintro e w1 ⟨rfl, rfl⟩
  go_wp2_with fail
  refine (cman _ _).mono ?_
  rintro e w1 ⟨rfl, hb1⟩
  obtain ⟨d0, d1, d2, d3, df⟩ := mcells (HM.out.keep hb1 (lt_of_block HM.out))
  have HB := Lib.hid (below_th HB0.out hb1)
  clear hb1
  go_wp2
  refine bodyPost_ret (v := .tuple #[.agg #[.int .u32 0, .slice none 0 0, .slice none 0 0, .bool false], .bool false]) (by simp [results, Tryz.results28, go_sem, *]) rfl ?_
  exact ⟨rfl, (((HB.out.setCell (Nat.le_refl _) _).setCell (Nat.le_refl _) _).setCell (Nat.le_refl _) _).setCell (Nat.le_refl _) _⟩
end Xn
end Go.Proofs.YtdmoohiepnbdaaaGreat
namespace Go.Proofs.YtdmoohiepnbdaaaGreat
open Go.RowKit
set_option linter.unusedVariables false
set_option linter.unusedSimpArgs false
namespace Xn
structure MnV where
  p : Int
  a : Option Addr
  na : Nat
  ca : Nat
  b : Option Addr
  nb : Nat
  cb : Nat
  c : Bool
def MnV.cells (m : MnV) : Array Value := #[.int .u32 m.p, .slice m.a m.na m.ca, .slice m.b m.nb m.cb, .bool m.c]
theorem large (w : World) (m : MnV) : Calls Tryz.prog 98 #[.agg m.cells] w fun e w' => e = .returned (.bool (decide (40 < m.na) || decide (40 < m.nb))) ∧ Below w.heap.size w w' := by
  have HB := Lib.hid ((Below.refl w.heap.size w).alloc (Nat.le_refl _) (.cells #[.int .u32 m.p, .slice m.a m.na m.ca, .slice m.b m.nb m.cb, .bool m.c] 45))
  unfold MnV.cells
  by_cases h1 : 40 < m.na
  · have e1 : ((40 : Int) < m.na) := by omega
    go_enter Tryz.func98, Tryz.ntmps98
    go_wp2
    go_ret
    exact ⟨by simp [h1], HB.out⟩
  · have e1 : ¬ ((40 : Int) < m.na) := by omega
    by_cases h2 : 40 < m.nb
    · have e2 : ((40 : Int) < m.nb) := by omega
      go_enter Tryz.func98, Tryz.ntmps98
      go_wp2
      go_ret
      exact ⟨by simp [h2], HB.out⟩
    · have e2 : ¬ ((40 : Int) < m.nb) := by omega
      go_enter Tryz.func98, Tryz.ntmps98
      go_wp2
      go_ret
      exact ⟨by simp [h1, h2], HB.out⟩
end Xn
end Go.Proofs.YtdmoohiepnbdaaaGreat
