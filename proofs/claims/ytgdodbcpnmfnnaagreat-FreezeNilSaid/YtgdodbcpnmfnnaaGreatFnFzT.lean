/- FzT, FzH, FzV, FzX, FzGet, FzZ in one text. -/
import Derived.Test.YtgdodbcpnmfnnaaGreatFnFzPut
import Derived.Test.YtgdodbcpnmfnnaaGreatFnTskG
import Derived.Test.YtgdodbcpnmfnnaaGreatFnPag
import Derived.Test.YtgdodbcpnmfnnaaGreatFnRow
namespace Go.Proofs.YtgdodbcpnmfnnaaGreat.Fz
open Go.RowKit Word
set_option linter.unusedVariables false
set_option linter.unusedSimpArgs false
def frSp (A : List Pg) (own : List Int) : List Fp := (Pag.addrs A).map fun x => ⟨x, Sp.permV A x, decide (x ∈ own), Sp.getS A x 256 0⟩
def frOf (m : Mn) (E : En) : Fr := ⟨m, fun i => E.arg i, E.pc, frSp E.A E.own, E.text⟩
theorem frSp_len (A : List Pg) (own : List Int) : (frSp A own).length = A.length := by unfold frSp Pag.addrs; rw [List.length_map, List.length_map]
structure FrAt (w0 : World) (b : Nat) (x : Fr) (ev pv sv : Value) (w : World) : Prop where
  box : FBox w b x ev pv sv
  inn : FrIn w x ev pv sv
  own : ∀ g, ev.ownBlock = some g ∨ pv.ownBlock = some g ∨ sv.ownBlock = some g → w0.heap.size ≤ g ∧ g < w.heap.size ∧ g ≠ b
  b0 : w0.heap.size ≤ b
  bel : Below w0.heap.size w0 w
section
variable {w0 w w' : World} {b : Nat} {x y : Fr} {ev pv sv : Value}
theorem FrAt.below (h : FrAt w0 b x ev pv sv w) (hb : Below w.heap.size w w') : FrAt w0 b x ev pv sv w' :=
  ⟨h.box.keep (Mod.of_below hb fun _ => False) id, h.inn.below hb, fun g hg => ⟨(h.own g hg).1, Nat.lt_of_lt_of_le (h.own g hg).2.1 hb.size, (h.own g hg).2.2⟩, h.b0, below_th h.bel hb⟩
theorem FrAt.set (h : FrAt w0 b x ev pv sv w) (j : Nat) (v : Value) (he : (x.arr ev pv sv).setIfInBounds j v = y.arr ev pv sv) (hm : y.m = x.m) (hs : y.sp = x.sp) : FrAt w0 b y ev pv sv (w.setCell ⟨b, j, none⟩ v) := by
  have hmo : Mod (fun i => i = b) w (w.setCell ⟨b, j, none⟩ v) := Mod.setCell (F := fun i => i = b) (Mod.refl _ _) ⟨b, j, none⟩ (.inl rfl) _
  refine ⟨h.box.set j v he, ⟨⟨?_, ?_⟩, ?_⟩, fun g hg => ⟨(h.own g hg).1, Nat.lt_of_lt_of_le (h.own g hg).2.1 hmo.size, (h.own g hg).2.2⟩, h.b0, Mod.below h.bel hmo h.bel.size fun i _ e => by rw [e]; exact h.b0⟩
  · rw [hm]; exact h.inn.m.e.keep fun g hg => hmo.block g (h.own g (.inl hg)).2.1 (h.own g (.inl hg)).2.2
  · rw [hm]; exact h.inn.m.p.keep fun g hg => hmo.block g (h.own g (.inr (.inl hg))).2.1 (h.own g (.inr (.inl hg))).2.2
  · rw [hs]; exact h.inn.s.keep fun g hg => hmo.block g (h.own g (.inr (.inr hg))).2.1 (h.own g (.inr (.inr hg))).2.2
end
theorem FrAt.app {w0 W : World} {b q : Nat} {x : Fr} {ev pv : Value} {so : Option Addr} {sc : Nat} {p : Fp} (h : FrAt w0 b x ev pv (.slice so x.sp.length sc) W) (hq : W.heap[q]? = some (.cells #[.int .u32 p.addr, .int .u8 p.perm, .bool p.own, .string p.text] 159 (0, 0))) (hl : x.sp.length ≤ 70000) (hap : ∀ g, (Value.slice so x.sp.length sc).ownBlock = some g → ev.ownBlock ≠ some g ∧ pv.ownBlock ≠ some g) :
    ∃ s' c' W', (Builtin.append_ #[47, 47] 47 #[.slice so x.sp.length sc, .slice (some ⟨q, 0, none⟩) 1 1]).run Tryz.prog W = .ok (.slice s' (x.sp.length + 1) c') W' ∧ FrAt w0 b { x with sp := x.sp ++ [p] } ev pv (.slice s' (x.sp.length + 1) c') (W'.setCell ⟨b, 21, none⟩ (.slice s' (x.sp.length + 1) c')) ∧ W'.cell? ⟨b, 21, none⟩ = some (.slice so x.sp.length sc) ∧ W'.frozen? ⟨b, 21, none⟩ = false ∧ Mod (fun k => (Value.slice so x.sp.length sc).ownBlock = some k) W W' ∧ ((Value.slice s' (x.sp.length + 1) c').ownBlock = (Value.slice so x.sp.length sc).ownBlock ∨ ∃ k, (Value.slice s' (x.sp.length + 1) c').ownBlock = some k ∧ W.heap.size ≤ k) := by
  obtain ⟨i0, hi0, hz0, hz1, hz2⟩ := info_parts info_page
  obtain ⟨v10, w10, hrun, r10, m10, o10⟩ := h.inn.s.append (P := Tryz.prog) (t := 47) (bytes := 24) 47 i0 _ Tryz.underlying47 hi0 hz0 hz1 hz2 rfl (by decide) ⟨q, 0, none⟩ 1 1 [.int .u32 p.addr, .int .u8 p.perm, .bool p.own, .string p.text] (by decide) rfl (fun j u hu => by rw [Addr.add_lit]; unfold World.cell?; simp only [Nat.zero_add]; rw [hq]; simpa using hu) (fun u hu => by simp at hu; rcases hu with rfl | rfl | rfl | rfl <;> rfl) (by unfold maxLen; omega) (by omega)
  obtain ⟨s10, k10, rfl⟩ := r10.form
  have ho := h.own
  have hnb : ¬ (Value.slice so x.sp.length sc).ownBlock = some b := fun e => (ho b (.inr (.inr e))).2.2 rfl
  have h10 : FBox w10 b x ev pv (.slice so x.sp.length sc) := h.box.keep m10 hnb
  refine ⟨s10, k10, w10, hrun, ?_, h10.cell 21 _ rfl, h10.thaw 21, m10, o10⟩
  have hm : Mod (fun j => j = b) w10 (w10.setCell ⟨b, 21, none⟩ (.slice s10 (x.sp.length + 1) k10)) := Mod.setCell (F := fun j => j = b) (Mod.refl _ _) ⟨b, 21, none⟩ (.inl rfl) _
  have hlb := lt_of_block h.box
  have hb0 := h.b0
  have ho' : ∀ g, (Value.slice s10 (x.sp.length + 1) k10).ownBlock = some g → w0.heap.size ≤ g ∧ g < w10.heap.size ∧ g ≠ b := fun g hg => by
    obtain ⟨g', e1, e2⟩ := r10.lt (by omega)
    rw [hg] at e1
    cases e1
    rcases o10 with q' | ⟨z, q', qz⟩
    · rw [q'] at hg
      exact ⟨(ho g (.inr (.inr hg))).1, e2, (ho g (.inr (.inr hg))).2.2⟩
    · rw [q'] at hg
      cases hg
      exact ⟨by omega, e2, by omega⟩
  have hk : ∀ g, ev.ownBlock = some g ∨ pv.ownBlock = some g → (w10.setCell ⟨b, 21, none⟩ (.slice s10 (x.sp.length + 1) k10)).heap[g]? = W.heap[g]? := fun g hg => by
    have h1 : W.heap.size ≤ w10.heap.size := m10.size
    have h2 := ho g (hg.imp id .inl)
    rw [hm.block g (by omega) h2.2.2]
    exact m10.block g h2.2.1 fun e => by
      rcases hg with z | z
      · exact (hap g e).1 z
      · exact (hap g e).2 z
  refine ⟨h10.set 21 _ rfl, ⟨⟨h.inn.m.e.keep fun g hg => hk g (.inl hg), h.inn.m.p.keep fun g hg => hk g (.inr hg)⟩, ?_⟩, fun g hg => ?_, hb0, ?_⟩
  · have : (x.sp ++ [p]).length = x.sp.length + 1 := by simp
    show SlV _ _ 4 _ (x.sp ++ [p]).length (pgC (x.sp ++ [p]))
    rw [this, pgC_app]
    exact r10.keep fun g hg => hm.block g (ho' g hg).2.1 (ho' g hg).2.2
  · have h1 : W.heap.size ≤ w10.heap.size := m10.size
    have h2 := hm.size
    rcases hg with z | z | z
    · have := ho g (.inl z); omega
    · have := ho g (.inr (.inl z)); omega
    · have := ho' g z; omega
  · exact Mod.below (Mod.below h.bel m10 h.bel.size fun i _ e => (ho i (.inr (.inr e))).1) hm (by have := h.bel.size; have := m10.size; omega) fun i _ e => by rw [e]; exact hb0
theorem SlV.modN {w w' : World} {e : TypeId} {z n b : Nat} {v : Value} {xs : List Value} (h : SlV w e z v n xs) (hm : Mod (fun k => k = b) w w') (hb : ∀ g, v.ownBlock = some g → g ≠ b) : SlV w' e z v n xs := by
  rcases h.2 with ⟨h1, a, rfl⟩ | ⟨g, off, cap, cur, rfl, hg, _⟩
  · exact ⟨h.1, .inl ⟨h1, a, rfl⟩⟩
  · exact h.keep fun g' hg' => by
      cases hg'
      exact hm.block g (lt_of_block hg) (hb g rfl)
theorem row_own {W : World} {base : Nat} {e : TypeId} {size : Nat} {v : Value} {k : Nat} {xs : List Value} (h : W.ownsRow base e size v k xs) : ∀ g, v.ownBlock = some g → base ≤ g := by
  rcases h.2 with ⟨rfl, _⟩ | ⟨g', cap, cur, rfl, g1, _⟩
  · intro g hg; cases hg
  · intro g hg; cases hg; exact g1
def x0 (m : Mn) (E : En) (i : Nat) : Fr := { zeroFr with m := m, pc := E.pc, text := E.text, r := fun j => if j < i then E.arg j else 0 }
def tkRel (w : World) (b : Nat) (m : Mn) (E : En) (ev pv : Value) (vi : Value) (wr : World) : Prop := ∃ i : Nat, i ≤ 16 ∧ vi = .int .i64 i ∧ FrAt w b (x0 m E i) ev pv nl wr
def tpRel (w v2 : World) (b : Nat) (m : Mn) (E : En) (ev pv : Value) (vi : Value) (wr : World) : Prop := ∃ (i : Nat) (sv : Value), i ≤ E.A.length ∧ vi = .int .i64 i ∧ FrAt w b { x0 m E 16 with sp := (frSp E.A E.own).take i } ev pv sv wr ∧ (∀ g, sv.ownBlock = some g → v2.heap.size ≤ g) ∧ Mod (fun k => k = b) v2 wr
def TakeP (w : World) (m : Mn) (E : En) (r : Ending) (w' : World) : Prop :=
  ∃ ev pv sv, r = .returned (.tuple #[.agg ((frOf m E).arr ev pv sv), .int .i64 0]) ∧ FrIn w' (frOf m E) ev pv sv ∧ (∀ g, ev.ownBlock = some g ∨ pv.ownBlock = some g ∨ sv.ownBlock = some g → w.heap.size ≤ g ∧ g < w'.heap.size) ∧ Below w.heap.size w w'
theorem x0_arr (m : Mn) (E : En) (sp : List Fp) (ev pv sv : Value) : ({ x0 m E 16 with sp := sp } : Fr).arr ev pv sv = (frOf m E).arr ev pv sv :=
  arr_cong (x := { x0 m E 16 with sp := sp }) (y := frOf m E) rfl rfl (fun j hj => by show (if j < 16 then E.arg j else 0) = E.arg j; rw [if_pos hj]) rfl rfl _ _ _
set_option maxRecDepth 100000 in
set_option maxHeartbeats 4000000 in
theorem takeF {w : World} {a : KAt} {K : Kn} {e : EAt} {E : En} (h : KE w a K e E) (hn : 1 ≤ E.num ∧ E.num ≤ 8) (hk : E.kind = 2) {G : Gr} (hg : K.g E.num = some G) (hml : G.m.ext.length ≤ 2000000 ∧ G.m.ports.length ≤ 2000000) (hok : (frOf G.m E).ok) (hmay : (frOf G.m E).may) :
    Calls Tryz.prog 22 #[.pointer (some ⟨a.kb, 0, none⟩), .pointer (some ⟨e.eb, 0, none⟩)] w (TakeP w G.m E) := by
  have HFin : Hid (∀ V ev pv sv, FrIn V (frOf G.m E) ev pv sv → (∀ g, ev.ownBlock = some g ∨ pv.ownBlock = some g ∨ sv.ownBlock = some g → w.heap.size ≤ g ∧ g < V.heap.size) → Below w.heap.size w V → TakeP w G.m E (.returned (.tuple #[.agg ((frOf G.m E).arr ev pv sv), .int .i64 0])) V) := Lib.hid fun V ev pv sv h1 h2 h3 => ⟨ev, pv, sv, rfl, h1, h2, h3⟩
  have HKn := Lib.hid fun V (hV : Below w.heap.size w V) => h.kn.below hV
  have HEn := Lib.hid fun V (hV : Below w.heap.size w V) => h.en.below hV
  have HMan : Hid (∀ V, Below w.heap.size w V → Calls Tryz.prog 87 #[.pointer (some ⟨a.c.cb, 0, none⟩), .int .i64 E.num] V (Ca.ManP V (some G))) := Lib.hid fun V hV => by
    have := Ca.manifest (h.kn.below hV).caps (n := E.num) ⟨by omega, by omega⟩ (by rw [hg]; exact hml)
    rw [hg] at this
    exact this
  have HOk := Lib.hid hok
  have HMay := Lib.hid hmay
  have hkd : (E.kind != 2) = false := by rw [hk]; rfl
  have hfd := fun V => kindOf E.kind E.code E.why V
  obtain ⟨n, hn'⟩ : ∃ y, w.heap.size = y := ⟨_, rfl⟩
  have hz : FBox (w.alloc (.cells (zeroFr.arr nl nl nl) 49)) w.heap.size zeroFr nl nl nl := heap_alloc_new w _
  have hbz : Below w.heap.size w (w.alloc (.cells (zeroFr.arr nl nl nl) 49)) := (Below.refl _ _).alloc (Nat.le_refl _) _
  have HZ := Lib.hid (And.intro hz hbz)
  have HN := Lib.hid hn'
  generalize TakeP w G.m E = PQ at *
  rw [hn'] at HZ
  clear h hn hk hg hml hok hmay hz hbz
  go_enter Tryz.func22, Tryz.ntmps22
  go_wp2_with fail
  refine (fun (F : ∀ V, FBox V n zeroFr nl nl nl → Below n w V → Calls Tryz.prog _ _ V _) => F _ HZ.out.1 HZ.out.2) ?_
  intro w1 hz1 hb1
  have hbw : Below w.heap.size w w1 := by rw [HN.out]; exact hb1
  have HB1 := Lib.hid hbw
  have HZ1 := Lib.hid hz1
  clear hz1 hb1 hbw HZ hn'
  refine (Kl.caps (HKn.out _ HB1.out)).mono ?_
  rintro r w2 ⟨rfl, rfl⟩
  go_wp2_with fail
  refine (Ev.num (HEn.out _ HB1.out)).mono ?_
  rintro r w2 ⟨rfl, rfl⟩
  go_wp2_with fail
  refine (HMan.out _ HB1.out).mono ?_
  rintro r w2 ⟨ev, pv, rfl, hm2, ho2, hb2⟩
  have hm2 : MnAt w2 ev pv G.m := hm2
  obtain ⟨eo, ec, rfl⟩ := hm2.e.form
  obtain ⟨po, pc, rfl⟩ := hm2.p.form
  have hb3 : Below w2.heap.size w2 (w2.alloc (.cells #[.int .u32 G.m.pages, .slice eo G.m.ext.length ec, .slice po G.m.ports.length pc, .bool G.m.con] 45)) := (Below.refl _ _).alloc (Nat.le_refl _) _
  have hx3 : (w2.alloc (.cells #[.int .u32 G.m.pages, .slice eo G.m.ext.length ec, .slice po G.m.ports.length pc, .bool G.m.con] 45)).heap[w2.heap.size]? = some (.cells (G.m.cells (.slice eo G.m.ext.length ec) (.slice po G.m.ports.length pc)) 45 (0, 0)) := heap_alloc_new w2 _
  have h3 : FrAt w n { zeroFr with m := G.m } (.slice eo G.m.ext.length ec) (.slice po G.m.ports.length pc) nl w2 → True := fun _ => trivial
  have HM2 := Lib.hid (And.intro hm2 ho2)
  have HB2 := Lib.hid (below_th HB1.out hb2)
  have HBb := Lib.hid hb2
  clear hm2 ho2 hb2 h3
  unfold gOf
  simp only [Option.getD_some, Mn.cells]
  go_wp2_with fail
  obtain ⟨w3, hw3⟩ : ∃ y, w2.alloc (.cells #[.int .u32 G.m.pages, .slice eo G.m.ext.length ec, .slice po G.m.ports.length pc, .bool G.m.con] 45) = y := ⟨_, rfl⟩
  obtain ⟨mb, hmb⟩ : ∃ y, w2.heap.size = y := ⟨_, rfl⟩
  rw [hw3] at hb3 hx3 ⊢
  rw [hmb] at hx3 ⊢
  have HMb := Lib.hid (And.intro hmb (Nat.lt_of_lt_of_le (lt_of_block HZ1.out) HBb.out.size))
  have HX3 := Lib.hid hx3
  have HB3 := Lib.hid hb3
  clear hw3 hmb hx3 hb3 hm2
  refine (Ev.state (HEn.out _ (below_th HB2.out HB3.out))).mono ?_
  rintro r w4 ⟨rfl, hb4⟩
  have HB4 := Lib.hid hb4
  clear hb4
  go_wp2_with fail
  have HS : Hid (∀ V, Below w3.heap.size w3 V → V.cell? ⟨mb, 0, none⟩ = some (.int .u32 G.m.pages) ∧ V.cell? ⟨mb, 1, none⟩ = some (.slice eo G.m.ext.length ec) ∧ V.cell? ⟨mb, 2, none⟩ = some (.slice po G.m.ports.length pc) ∧ V.cell? ⟨mb, 3, none⟩ = some (.bool G.m.con) ∧ True) := Lib.hid fun V hV => by
    have q := (hV.block _ (lt_of_block HX3.out)).trans HX3.out
    obtain ⟨q0, q1, q2, q3, _⟩ := Ca.man_cells4 q
    exact ⟨q0, q1, q2, q3, trivial⟩
  have HAll : Hid (∀ V, Below w3.heap.size w3 V → Env V e E ∧ FBox V n zeroFr nl nl nl ∧ Below w.heap.size w V ∧ MnAt V (.slice eo G.m.ext.length ec) (.slice po G.m.ports.length pc) G.m) := Lib.hid fun V hV => ⟨HEn.out V (below_th HB2.out (below_th HB3.out hV)), HZ1.out.keep (Mod.of_below (below_th HBb.out (below_th HB3.out hV)) fun _ => False) id, below_th HB2.out (below_th HB3.out hV), HM2.out.1.below (below_th HB3.out hV)⟩
  have HOwn : Hid (∀ g, (Value.slice eo G.m.ext.length ec).ownBlock = some g ∨ (Value.slice po G.m.ports.length pc).ownBlock = some g ∨ nl.ownBlock = some g → n + 1 ≤ g ∧ g < w3.heap.size) := Lib.hid fun g hg => by
    have h1 := lt_of_block HZ1.out
    have h2 := HB3.out.size
    rcases hg with q | q | q
    · have := HM2.out.2 g (.inl q); omega
    · have := HM2.out.2 g (.inr q); omega
    · cases q
  refine B (fun V => V.cell? ⟨mb, 0, none⟩ = some (.int .u32 G.m.pages) ∧ V.cell? ⟨mb, 1, none⟩ = some (.slice eo G.m.ext.length ec) ∧ V.cell? ⟨mb, 2, none⟩ = some (.slice po G.m.ports.length pc) ∧ V.cell? ⟨mb, 3, none⟩ = some (.bool G.m.con) ∧ True) (HS.out _ HB4.out.drew) fun wd hwd hS => ?_
  have HBd : Hid (Below w3.heap.size w3 wd) := Lib.hid (by rw [hwd]; exact HB4.out.drew)
  clear hwd HB4 HM2 HBb HZ1 HB3 HB2 HX3
  refine T 0 hS ?_
  refine T 1 hS ?_
  refine T 4 hS ?_
  refine U 2 fun K hK => ?_
  go_simp
  go_at_call 77
  refine (Ev.cpu (HAll.out _ HBd.out).1).mono ?_
  rintro r v1 ⟨rfl, rfl⟩
  refine V hK hS ?_; clear hK K
  refine U 3 fun K hK => ?_
  go_simp
  go_at_call 79
  refine (Cp.pc_ok (HAll.out _ HBd.out).1.cp).mono ?_
  rintro r v1 ⟨rfl, rfl⟩
  refine V hK hS ?_; clear hK K
  refine U 5 fun K hK => ?_
  go_simp
  go_at_call 89
  refine (Ev.console (HAll.out _ HBd.out).1).mono ?_
  rintro r v1 ⟨rfl, rfl⟩
  refine V hK hS ?_; clear hK K
  refine T 6 hS ?_
  refine U 7 fun K hK => ?_
  rw [if_pos (by rfl)]
  have hAll := HAll.out wd HBd.out
  refine wp_store_mid 49 _ _ rfl n 0 ((x0 G.m E 0).arr (.slice eo G.m.ext.length ec) (.slice po G.m.ports.length pc) nl) rfl rfl hAll.2.1.there (fz_size _ _ _ _) (by kernel_rfl) ?_
  obtain ⟨hv8, hm8⟩ := hAll.2.1.sets (x0 G.m E 0) (.slice eo G.m.ext.length ec) (.slice po G.m.ports.length pc) nl
  generalize World.setCells wd n 0 ((x0 G.m E 0).arr (.slice eo G.m.ext.length ec) (.slice po G.m.ports.length pc) nl).toList = V8 at hv8 hm8 ⊢
  have hbel8 : Below w.heap.size w V8 := Mod.below hAll.2.2.1 hm8 hAll.2.2.1.size fun i _ q => by have := HN.out; omega
  have hown : ∀ g, (Value.slice eo G.m.ext.length ec).ownBlock = some g ∨ (Value.slice po G.m.ports.length pc).ownBlock = some g ∨ nl.ownBlock = some g → w.heap.size ≤ g ∧ g < V8.heap.size ∧ g ≠ n := fun g hg => by
    have := HOwn.out g hg
    have := HN.out
    have := HBd.out.size
    have := hm8.size
    omega
  have hkeep : ∀ g, (Value.slice eo G.m.ext.length ec).ownBlock = some g ∨ (Value.slice po G.m.ports.length pc).ownBlock = some g ∨ nl.ownBlock = some g → V8.heap[g]? = wd.heap[g]? := fun g hg => hm8.block g (Nat.lt_of_lt_of_le (HOwn.out g hg).2 HBd.out.size) (hown g hg).2.2
  have HR0 : Hid (tkRel w n G.m E (.slice eo G.m.ext.length ec) (.slice po G.m.ports.length pc) (.int .i64 0) V8) := Lib.hid ⟨0, by omega, rfl, hv8, ⟨⟨hAll.2.2.2.e.keep fun g hg => hkeep g (.inl hg), hAll.2.2.2.p.keep fun g hg => hkeep g (.inr (.inl hg))⟩, SlV.nil _ _ _⟩, hown, Nat.le_of_eq HN.out, hbel8⟩
  have hmn : ∀ i, V8.cell? ⟨mb, i, none⟩ = wd.cell? ⟨mb, i, none⟩ := fun i => World.cell?_of_block (w := wd) (hm8.block mb (by have := HMb.out; have := Ca.clt hS.1; omega) (by have := HMb.out; omega))
  obtain ⟨s0, s1, s2, s3, _⟩ := hS
  refine V hK ⟨(hmn 0).trans s0, (hmn 1).trans s1, (hmn 2).trans s2, (hmn 3).trans s3, trivial⟩ ?_; clear hK K
  refine wpAnyH_done (by kernel_rfl) ?_ _
  clear hAll hv8 hm8 hbel8 hown hkeep hmn s0 s1 s2 s3 HS HBd HAll
  go_wp2
  go_loopw [8, 48] (fun _ vi wr => tkRel w n G.m E (.slice eo G.m.ext.length ec) (.slice po G.m.ports.length pc) vi wr) (fun _ vi _ => 16 - (intOf vi).toNat)
  case atStart => exact HR0.out
  case round =>
    clear HR0
    obtain ⟨i, hi, rfl, hx⟩ := hrel
    by_cases hin : i < 16
    · have ii : (i : Int) < 16 := by omega
      have i0 : (0 : Int) ≤ (i : Int) := by omega
      have b1 : wr.cell? ⟨n, 4 + i, none⟩ = some (.int .u32 ((x0 G.m E i).r i)) := hx.box.cell (4 + i) _ (arr_getr _ _ _ _ i hin)
      have f1 := hx.box.thaw (4 + i)
      have HA := Lib.hid (Ev.arg (HEn.out _ hx.bel) (i : Int) (by omega) (by omega))
      have g4 : FrAt w n (x0 G.m E (i + 1)) (.slice eo G.m.ext.length ec) (.slice po G.m.ports.length pc) nl (wr.setCell ⟨n, 4 + i, none⟩ (.int .u32 (E.arg i))) := hx.set (4 + i) _ (by
        rw [arr_reg _ _ _ _ i hin]
        refine arr_cong (x := { x0 G.m E i with r := upd (x0 G.m E i).r i (E.arg i) }) (y := x0 G.m E (i + 1)) rfl rfl (fun j hj => ?_) rfl rfl _ _ _
        show (if j = i then E.arg i else if j < i then E.arg j else 0) = if j < i + 1 then E.arg j else 0
        by_cases q : j = i
        · subst q; rw [if_pos rfl, if_pos (by omega)]
        · rw [if_neg q]
          by_cases q2 : j < i
          · rw [if_pos q2, if_pos (by omega)]
          · rw [if_neg q2, if_neg (by omega)]) rfl rfl
      have Fin : Hid (tkRel w n G.m E (.slice eo G.m.ext.length ec) (.slice po G.m.ports.length pc) (.int .i64 ((i : Int) + 1)) (wr.setCell ⟨n, 4 + i, none⟩ (.int .u32 (E.arg i)))) := Lib.hid ⟨i + 1, by omega, by go_num, g4⟩
      clear g4 hx
      go_wp2_with fail
      refine HA.out.mono ?_
      rintro r v1 ⟨rfl, rfl⟩
      go_wp2
      exact ⟨Fin.out, by simp [intOf]; omega⟩
    · obtain rfl : i = 16 := by omega
      have HX := Lib.hid hx
      clear hx
      go_wp2_with fail
      refine (Ev.own (HEn.out _ HX.out.bel)).mono ?_
      rintro r v1 ⟨ov, rfl, hov, hovb, hb1⟩
      have HOb : Hid (∀ g, ov.ownBlock = some g → g ≠ n) := Lib.hid fun g hg => by have := hovb g hg; have := lt_of_block HX.out.box; omega
      have HX1 := Lib.hid (HX.out.below hb1)
      have HOv := Lib.hid fun V (hV : Below v1.heap.size v1 V) => (show Sl.Lst V ov E.own from hov.below hV)
      clear hov hovb hb1 HX
      go_wp2_with fail
      refine (Ev.space (HEn.out _ HX1.out.bel)).mono ?_
      rintro r v2 ⟨rfl, rfl⟩
      go_wp2_with fail
      refine (Pag.pages (HEn.out _ HX1.out.bel).sp).mono ?_
      rintro r v2 ⟨rv, rfl, hrow, hb2⟩
      have hqn : ∀ g, rv.ownBlock = some g → g ≠ n := fun g hg => by have := row_own hrow g hg; have := lt_of_block HX1.out.box; omega
      have hpl := SlV.of_own hrow
      obtain ⟨qo, qc, rfl⟩ := hpl.form
      have HX2 := Lib.hid (HX1.out.below hb2)
      have HPl := Lib.hid fun V (hV : Mod (fun k => k = n) v2 V) => SlV.modN hpl hV hqn
      have HOv2 := Lib.hid fun V (hV : Mod (fun k => k = n) v2 V) => (show Sl.Lst V ov E.own from SlV.modN (HOv.out v2 hb2) hV HOb.out)
      have HR1 : Hid (tpRel w v2 n G.m E (.slice eo G.m.ext.length ec) (.slice po G.m.ports.length pc) (.int .i64 0) v2) := Lib.hid ⟨0, nl, Nat.zero_le _, rfl, by rw [List.take_zero]; exact HX2.out, fun g hg => (nomatch hg), Mod.refl _ _⟩
      have HEv : Hid (∀ g, (Value.slice eo G.m.ext.length ec).ownBlock = some g ∨ (Value.slice po G.m.ports.length pc).ownBlock = some g → g < v2.heap.size) := Lib.hid fun g hg => (HX2.out.own g (hg.imp id .inl)).2.1
      have hal : E.A.length ≤ 4096 := by have := (HEn.out _ HX1.out.bel).sp.len; omega
      have HAl := Lib.hid hal
      clear hb2 hrow hpl hqn HOv HX1 hal
      go_wp2
      go_loopw [11, 12, 13, 14, 15, 64] (fun _ _ _ _ _ vi wr => tpRel w v2 n G.m E (.slice eo G.m.ext.length ec) (.slice po G.m.ports.length pc) vi wr) (fun _ _ _ _ _ vi _ => E.A.length - (intOf vi).toNat)
      case atStart => exact HR1.out
      case round =>
        clear HR1
        obtain ⟨i, sv, hi, rfl, hx, hsb, hm⟩ := hrel
        obtain ⟨so, sc, rfl⟩ := hx.inn.s.form
        by_cases hin : i < E.A.length
        · have ii : (i : Int) < E.A.length := by omega
          have i0 : (0 : Int) ≤ (i : Int) := by omega
          have hpr := HPl.out wr hm
          have hal : (Pag.addrs E.A).length = E.A.length := by unfold Pag.addrs; rw [List.length_map]
          obtain ⟨g, off, rfl, hc⟩ : ∃ g off, qo = some ⟨g, off, none⟩ ∧ wr.cell? ⟨g, off + i, none⟩ = some (.int .u32 (Pag.addrs E.A)[i]) := by
            rcases hpr.2 with ⟨h0, _⟩ | ⟨g, off, cap, cur, hv, hg, _⟩
            · omega
            · simp only [Value.slice.injEq] at hv
              obtain ⟨rfl, _, rfl⟩ := hv
              refine ⟨g, off, rfl, ?_⟩
              rw [hpr.cell i (by omega), List.getElem?_map, List.getElem?_eq_getElem (by omega)]
              rfl
          obtain ⟨at', hat⟩ : ∃ y, (Pag.addrs E.A)[i] = y := ⟨_, rfl⟩
          rw [hat] at hc
          have hmem : at' ∈ Pag.addrs E.A := by rw [← hat]; exact List.getElem_mem _
          have hab : 0 ≤ at' ∧ at' ≤ 4294967295 := by
            obtain ⟨pp, hp, e⟩ := List.mem_map.1 hmem
            have := (HEn.out _ hx.bel).sp.ok pp hp
            have h1 := this.a0
            have h2 := this.a1
            rw [← e]; omega
          have hfp : (frSp E.A E.own).take (i + 1) = (frSp E.A E.own).take i ++ [⟨at', Sp.permV E.A at', decide (at' ∈ E.own), Sp.getS E.A at' 256 0⟩] := by
            rw [List.take_succ_eq_append_getElem (by rw [frSp_len]; exact hin)]
            congr 2
            unfold frSp
            rw [List.getElem_map, hat]
          have hsl : ((frSp E.A E.own).take i).length = i := by rw [List.length_take, frSp_len]; omega
          obtain ⟨L, hL⟩ : ∃ L, (frSp E.A E.own).take i = L := ⟨_, rfl⟩
          rw [hL] at hfp hx hsl hsb
          have HFp := Lib.hid hfp
          have HX := Lib.hid (And.intro hx hsb)
          have HM := Lib.hid hm
          have HSl := Lib.hid hsl
          have HSp := Lib.hid (HEn.out _ hx.bel).sp
          have HPm := Lib.hid (Sp.perm_any HSp.out at' hab.1 hab.2)
          have HLk := Lib.hid (Sp.look HSp.out at' 256 hab.1 hab.2)
          clear hL hal hpr hat hmem hab hfp hx hsb hm hsl HPl
          go_wp2_with fail
          refine (Ev.space (HEn.out _ HX.out.1.bel)).mono ?_
          rintro r v3 ⟨rfl, rfl⟩
          go_wp2_with fail
          refine HPm.out.mono ?_
          rintro r v3 ⟨rfl, rfl⟩
          go_wp2_with fail
          refine (Ev.space (HEn.out _ HX.out.1.bel)).mono ?_
          rintro r v3 ⟨rfl, rfl⟩
          go_wp2_with fail
          refine HLk.out.mono ?_
          rintro r v3 ⟨rfl, hb3⟩
          have HX3 := Lib.hid (HX.out.1.below hb3)
          have HM3 := Lib.hid (HM.out.trans (Mod.of_below hb3 fun _ => False) fun _ _ q => q.elim)
          obtain ⟨bo, hbo⟩ : ∃ y, decide (at' ∈ E.own) = y := ⟨_, rfl⟩
          obtain ⟨pe, hpe⟩ : ∃ y, Sp.permV E.A at' = y := ⟨_, rfl⟩
          obtain ⟨tx, htx⟩ : ∃ y, Sp.getS E.A at' 256 0 = y := ⟨_, rfl⟩
          rw [hbo, hpe, htx] at HFp
          have HBo := Lib.hid hbo
          rw [hpe, htx]
          clear hc hb3 HPm HLk HSp hbo hpe htx
          go_wp2_with fail
          have hs21 : v3.cell? ⟨n, 21, none⟩ = some (.slice so L.length sc) := HX3.out.box.cell 21 _ rfl
          have e21 : ∀ j, v3.frozen? ⟨n, j, none⟩ = false := fun j => HX3.out.box.thaw j
          refine LB (fun V => V.cell? ⟨n, 21, none⟩ = some (.slice so L.length sc) ∧ True) 12 ⟨hs21, trivial⟩ fun wd hwd hS => ?_
          have HXd := Lib.hid (show FrAt w n _ _ _ _ wd by rw [hwd]; exact HX3.out.below (Below.refl _ _).drew)
          have HMd := Lib.hid (show Mod (fun k => k = n) v2 wd by rw [hwd]; exact HM3.out.drew)
          have HCd : Hid (Calls Tryz.prog 95 #[ov, .int .u32 at'] wd fun e w' => e = .returned (.bool bo) ∧ wd = w') := Lib.hid (by
            have := Ca.contains32 (HOv2.out _ HMd.out) at'
            rw [HBo.out] at this
            exact this)
          have HOb2 := Lib.hid HX.out.2
          have iw : IntKind.i64.wrap ((i : Int) + 1) = (i : Int) + 1 := by have := HAl.out; rw [IntKind.wrap_i64]; omega
          clear hwd hs21 e21 HX3 HM3 HX HM HBo
          refine LT 0 hS ?_
          refine LT 1 hS ?_
          refine LT 2 hS ?_
          refine LT 3 hS ?_
          refine LT 4 hS ?_
          refine LT 5 hS ?_
          refine LT 7 hS ?_
          refine LU 6 fun K hK => ?_
          go_simp
          go_at_call 95
          refine HCd.out.mono ?_
          rintro r v4 ⟨rfl, rfl⟩
          refine LV hK (fun _ => hS) ?_; clear hK K
          refine LT 8 hS ?_
          refine LU 9 fun K hK => ?_
          go_simp
          have hpb := heap_alloc_new wd (.cells #[.int .u32 at', .int .u8 pe, .bool bo, .string tx] 159)
          have hba : Below wd.heap.size wd (wd.alloc (.cells #[.int .u32 at', .int .u8 pe, .bool bo, .string tx] 159)) := (Below.refl _ _).alloc (Nat.le_refl _) _
          have hx5 := HXd.out.below hba
          have hm5 := HMd.out.alloc (.cells #[.int .u32 at', .int .u8 pe, .bool bo, .string tx] 159)
          have hS5 := And.intro (hx5.box.cell 21 _ rfl) trivial
          generalize wd.alloc (.cells #[.int .u32 at', .int .u8 pe, .bool bo, .string tx] 159) = w5 at *
          obtain ⟨s', c', w6, hrun, hx6, hc6, hf6, hm6, ho6⟩ := hx5.app (q := wd.heap.size) (p := ⟨at', pe, bo, tx⟩) hpb (by show L.length ≤ 70000; rw [HSl.out]; have := HAl.out; omega) (fun g hg => by
            have h1 := HOb2.out g hg
            exact ⟨fun q => by have := HEv.out g (.inl q); omega, fun q => by have := HEv.out g (.inr q); omega⟩)
          dsimp only at hrun hc6 hf6 hm6 ho6
          have fin : tpRel w v2 n G.m E (.slice eo G.m.ext.length ec) (.slice po G.m.ports.length pc) (.int .i64 ((i : Int) + 1)) (w6.setCell ⟨n, 21, none⟩ (.slice s' (L.length + 1) c')) := by
            refine ⟨i + 1, _, hin, by go_num, by rw [HFp.out]; exact hx6, fun g hg => ?_, (hm5.trans hm6 fun k _ q => .inr (HOb2.out k q)).setCell _ (.inl rfl) _⟩
            rcases ho6 with q | ⟨k, q, qk⟩
            · exact HOb2.out g (q.symm.trans hg)
            · have e : some k = some g := q.symm.trans hg
              cases e
              have := hm5.size
              omega
          have Fin := Lib.hid fin
          have hS6 := And.intro hc6 trivial
          have HRun := Lib.hid hrun
          clear hpb hba hx5 hm5 hrun hx6 hc6 hm6 ho6 fin HXd HMd HCd HFp
          refine LV hK (fun _ => hS5) ?_; clear hK K
          refine LU 10 fun K hK => ?_
          refine Rw.step_run (v := .slice so L.length sc) (y := .slice (some ⟨wd.heap.size, 0, none⟩) 1 1) rfl (.tmp 83) (.tmp 91) 47 rfl rfl rfl HRun.out ?_
          refine LV hK (fun _ => hS6) ?_; clear hK K
          refine LT 11 hS6 ?_
          have c21 := hS6.1
          refine LU 12 fun K hK => ?_
          go_simp
          refine LV hK (fun e => absurd rfl e) ?_; clear hK K
          refine E_done (by kernel_rfl) ?_ _
          clear hS hS5 hS6 c21 hf6 HRun
          go_wp2
          exact ⟨Fin.out, by simp [intOf]; omega⟩
        · obtain rfl : i = E.A.length := by omega
          rw [show (frSp E.A E.own).take E.A.length = frSp E.A E.own by rw [List.take_of_length_le (by rw [frSp_len]; omega)]] at hx
          have hbx : FBox wr n (frOf G.m E) (.slice eo G.m.ext.length ec) (.slice po G.m.ports.length pc) (.slice so (frSp E.A E.own).length sc) := by
            have := hx.box
            unfold FBox at this ⊢
            rw [x0_arr] at this
            exact this
          have hxi : FrIn wr (frOf G.m E) (.slice eo G.m.ext.length ec) (.slice po G.m.ports.length pc) (.slice so (frSp E.A E.own).length sc) := ⟨hx.inn.m, hx.inn.s⟩
          have HCk := Lib.hid (check hxi HOk.out HMay.out (by show (frSp E.A E.own).length ≤ 70000; rw [frSp_len]; have := HAl.out; omega))
          have HRa := Lib.hid hbx.range
          have HSi := Lib.hid (fz_sizeL (frOf G.m E) (.slice eo G.m.ext.length ec) (.slice po G.m.ports.length pc) (.slice so (frSp E.A E.own).length sc))
          have HX := Lib.hid hx
          have HBx := Lib.hid hbx
          have HXi := Lib.hid hxi
          have ii : ¬ (E.A.length : Int) < E.A.length := by omega
          clear hx hbx hxi hsb hm HPl HOv2 hin
          go_wp2_with (refine wpList_load_mid rfl 49 _ rfl n 0 rfl _ _ HRa.out Tryz.underlying49 rfl HSi.out ?_; rw [Array.toArray_toList])
          refine HCk.out.mono ?_
          rintro r v5 ⟨rfl, hb5⟩
          have hb5x := HBx.out.keep (Mod.of_below hb5 fun _ => False) id
          have HRb := Lib.hid hb5x.range
          have HTh := Lib.hid hb5x.there
          have HB5 := Lib.hid (And.intro hb5 hb5x)
          clear hb5 hb5x HRa HCk
          go_wp2_with (first
            | (refine wpList_load_mid rfl 49 _ rfl n 0 rfl _ _ HRb.out Tryz.underlying49 rfl HSi.out ?_; rw [Array.toArray_toList])
            | refine wpList_store_mid rfl 49 _ _ rfl n 0 ((frOf G.m E).arr (.slice eo G.m.ext.length ec) (.slice po G.m.ports.length pc) (.slice so (frSp E.A E.own).length sc)) rfl rfl HTh.out (fz_size _ _ _ _) (by kernel_rfl) ?_)
          obtain ⟨hv9, hm9⟩ := HB5.out.2.sets (frOf G.m E) (.slice eo G.m.ext.length ec) (.slice po G.m.ports.length pc) (.slice so (frSp E.A E.own).length sc)
          generalize World.setCells v5 n 0 ((frOf G.m E).arr (.slice eo G.m.ext.length ec) (.slice po G.m.ports.length pc) (.slice so (frSp E.A E.own).length sc)).toList = V9 at hv9 hm9 ⊢
          have hres := hv9.result
          have hmm : Mod (fun k => k = n) wr V9 := (Mod.of_below HB5.out.1 _).same hm9
          have ho := HX.out.own
          have hend := HFin.out V9 _ _ _ ⟨⟨HXi.out.m.e.keep fun g hg => hmm.block g (ho g (.inl hg)).2.1 (ho g (.inl hg)).2.2, HXi.out.m.p.keep fun g hg => hmm.block g (ho g (.inr (.inl hg))).2.1 (ho g (.inr (.inl hg))).2.2⟩, HXi.out.s.keep fun g hg => hmm.block g (ho g (.inr (.inr hg))).2.1 (ho g (.inr (.inr hg))).2.2⟩ (fun g hg => ⟨(ho g hg).1, Nat.lt_of_lt_of_le (ho g hg).2.1 hmm.size⟩) (Mod.below HX.out.bel hmm HX.out.bel.size fun i _ q => by rw [q]; exact HX.out.b0)
          exact bodyPost_ret (results_box Tryz.results22 rfl rfl hres) rfl hend
end Go.Proofs.YtgdodbcpnmfnnaaGreat.Fz
namespace Go.Proofs.YtgdodbcpnmfnnaaGreat.Fz
open Go.RowKit Word
set_option linter.unusedVariables false
set_option linter.unusedSimpArgs false
def thStep (A : List Pg) (p : Fp) : List Pg := Sp.putA (Sp.mapA A p.addr 0 p.perm) p.addr 0 p.text
def thA (l : List Fp) : List Pg := l.foldl thStep []
theorem thA_snoc (l : List Fp) (p : Fp) : thA (l ++ [p]) = thStep (thA l) p := by unfold thA; rw [List.foldl_append]; rfl
def thE (num : Int) (x : Fr) (A : List Pg) : En := ({ En.new num x.pc A with r := Cp.regsK (fun i => x.r i) 16 } : En).put x.text
def ThawP (w : World) (a : KAt) (K : Kn) (num : Int) (x : Fr) (r : Ending) (w' : World) : Prop :=
  (Ca.grantE K.hp K.hx K.g num x.m x.sp.length ≠ 0 ∧ r = .returned (.tuple #[.pointer none, .int .i64 (Ca.grantE K.hp K.hx K.g num x.m x.sp.length)]) ∧ Below w.heap.size w w') ∨
  (Ca.grantE K.hp K.hx K.g num x.m x.sp.length = 0 ∧ ∃ a' e A, r = .returned (.tuple #[.pointer (some ⟨e.eb, 0, none⟩), .int .i64 0]) ∧ KStep w w' a K a' { K with g := Gp.upd K.g num (some ⟨x.m, x.sp.length, 0⟩) } ∧ Env w' e (thE num x A) ∧ cores A = cores (thA x.sp) ∧ ∀ k, e.foot A k → w.heap.size ≤ k ∧ a'.tag k = 0)
def thRel (w1 : World) (sb mb : Nat) (l : List Fp) (vi : Value) (wr : World) : Prop := ∃ (i : Nat) (A : List Pg), i ≤ l.length ∧ vi = .int .i64 i ∧ Sp.Own w1 wr sb mb A ∧ cores A = cores (thA (l.take i))
def thr4 (w7 : World) (e : EAt) (E : En) (r : Nat → Int) (vi : Value) (wr : World) : Prop := ∃ i : Nat, 1 ≤ i ∧ i ≤ 16 ∧ vi = .int .i64 i ∧ EStep w7 wr e E e { E with r := Cp.regsK r i }
theorem grant_num {hp : Int} {hx : List Int} {G : Int → Option Gr} {n : Int} {m : Mn} {pg : Int} (h : Ca.grantE hp hx G n m pg = 0) : 1 ≤ n ∧ n ≤ 8 := by
  unfold Ca.grantE at h
  split at h
  · omega
  · omega
set_option maxRecDepth 100000 in
set_option maxHeartbeats 4000000 in
theorem thaw {w : World} {a : KAt} {K : Kn} (h : Knl w a K) (hp1 : K.hp ≤ 4096) (hl : K.hx.length ≤ 16) {x : Fr} {ev pv sv : Value} (hx : FrIn w x ev pv sv) (ho : x.ok) (hm : x.may) (hlen : x.sp.length ≤ 65536) (hno : ∀ p, p ∈ x.sp → p.own = false) (num : Int) :
    Calls Tryz.prog 23 #[.pointer (some ⟨a.kb, 0, none⟩), .int .i64 num, .agg (x.arr ev pv sv)] w (ThawP w a K num x) := by
  obtain ⟨so, sc, rfl⟩ := hx.s.form
  obtain ⟨eo, ec, rfl⟩ := hx.m.e.form
  obtain ⟨po, pc, rfl⟩ := hx.m.p.form
  have hb : Below w.heap.size w (w.alloc (.cells (x.arr (.slice eo x.m.ext.length ec) (.slice po x.m.ports.length pc) (.slice so x.sp.length sc)) 49)) := (Below.refl _ _).alloc (Nat.le_refl _) _
  have hbx : FBox (w.alloc (.cells (x.arr (.slice eo x.m.ext.length ec) (.slice po x.m.ports.length pc) (.slice so x.sp.length sc)) 49)) w.heap.size x (.slice eo x.m.ext.length ec) (.slice po x.m.ports.length pc) (.slice so x.sp.length sc) := heap_alloc_new w _
  have HTg : Hid (∀ k, w.heap.size ≤ k → a.tag k = 0) := Lib.hid fun k hk => Decidable.byContradiction fun g => absurd (h.lt _ g) (by omega)
  obtain ⟨w1, hw1⟩ : ∃ y, w.alloc (.cells (x.arr (.slice eo x.m.ext.length ec) (.slice po x.m.ports.length pc) (.slice so x.sp.length sc)) 49) = y := ⟨_, rfl⟩
  obtain ⟨xb, hxb⟩ : ∃ y, w.heap.size = y := ⟨_, rfl⟩
  rw [hw1] at hb hbx
  rw [hxb] at hbx
  have HXb := Lib.hid hxb
  have HB := Lib.hid hb
  have HKn := Lib.hid h
  have HAll : Hid (∀ V, Below w1.heap.size w1 V → FBox V xb x (.slice eo x.m.ext.length ec) (.slice po x.m.ports.length pc) (.slice so x.sp.length sc) ∧ FrIn V x (.slice eo x.m.ext.length ec) (.slice po x.m.ports.length pc) (.slice so x.sp.length sc) ∧ Knl V a K) := Lib.hid fun V hV => ⟨hbx.keep (Mod.of_below hV fun _ => False) id, hx.below (below_th hb hV), h.below (below_th hb hV)⟩
  have HCk := Lib.hid (check (hx.below hb) ho hm (by omega))
  have HRa := Lib.hid hbx.range
  have HSi := Lib.hid (fz_sizeL x (.slice eo x.m.ext.length ec) (.slice po x.m.ports.length pc) (.slice so x.sp.length sc))
  have HO := Lib.hid ho
  have HM := Lib.hid hm
  have HL := Lib.hid hlen
  have HNo := Lib.hid hno
  have HKb := Lib.hid (And.intro hp1 hl)
  have HF1 : Hid (∀ V, Ca.grantE K.hp K.hx K.g num x.m x.sp.length ≠ 0 → Below w1.heap.size w1 V → ThawP w a K num x (.returned (.tuple #[.pointer none, .int .i64 (Ca.grantE K.hp K.hx K.g num x.m x.sp.length)])) V) := Lib.hid fun V h1 h2 => .inl ⟨h1, rfl, below_th hb h2⟩
  have HF2 : Hid (∀ V a' e A, Ca.grantE K.hp K.hx K.g num x.m x.sp.length = 0 → KStep w V a K a' { K with g := Gp.upd K.g num (some ⟨x.m, x.sp.length, 0⟩) } → Env V e (thE num x A) → cores A = cores (thA x.sp) → (∀ k, e.foot A k → w.heap.size ≤ k ∧ a'.tag k = 0) → ThawP w a K num x (.returned (.tuple #[.pointer (some ⟨e.eb, 0, none⟩), .int .i64 0])) V) := Lib.hid fun V a' e A h1 h2 h3 h4 h5 => .inr ⟨h1, a', e, A, rfl, h2, h3, h4, h5⟩
  generalize ThawP w a K num x = PQ at *
  clear h hp1 hl hx ho hm hlen hno hb hbx
  unfold Fr.arr at hw1 ⊢
  go_enter Tryz.func23, Tryz.ntmps23
  go_upto_region 3 with (fail)
  try rw [hw1]
  try rw [hxb]
  clear hw1 hxb
  go_wp2_with (refine wpList_load_mid rfl 49 _ rfl xb 0 rfl _ _ HRa.out Tryz.underlying49 rfl HSi.out ?_; rw [Array.toArray_toList])
  refine HCk.out.mono ?_
  rintro r w2 ⟨rfl, hb2⟩
  have HB2 := Lib.hid hb2
  clear hb2 HCk HRa HSi
  go_wp2_with fail
  refine (Sp.o_new _).mono ?_
  rintro r w3 ⟨rfl, ho3⟩
  obtain ⟨sb, hsb⟩ : ∃ y, w2.heap.size + 1 = y := ⟨_, rfl⟩
  obtain ⟨mb, hmb⟩ : ∃ y, w2.heap.size = y := ⟨_, rfl⟩
  rw [hsb] at ho3 ⊢
  rw [hmb] at ho3
  have c21 : w3.cell? ⟨xb, 21, none⟩ = some (.slice so x.sp.length sc) := (HAll.out w3 (below_th HB2.out ho3.bel)).1.cell 21 _ rfl
  have HR0 : Hid (thRel w2 sb mb x.sp (.int .i64 0) w3) := Lib.hid ⟨0, [], Nat.zero_le _, rfl, ho3, rfl⟩
  clear ho3 hsb hmb
  go_wp2
  go_loopw [10, 12, 30] (fun vo _ vi wr => vo = .slice none 0 0 ∧ thRel w2 sb mb x.sp vi wr) (fun _ _ vi _ => x.sp.length - (intOf vi).toNat)
  case atStart => exact ⟨rfl, HR0.out⟩
  case round =>
    clear HR0 c21
    obtain ⟨rfl, i, A, hi, rfl, how, hco⟩ := hrel
    by_cases hin : i < x.sp.length
    · have ii : (i : Int) < x.sp.length := by omega
      have i0 : (0 : Int) ≤ (i : Int) := by omega
      have hbw := below_th HB2.out how.bel
      obtain ⟨g, off, rfl, hgl, p0, p1, p2, p3⟩ := pg_cells (HAll.out wr hbw).2.1.s hin
      have hmem := List.getElem_mem hin
      have hob := HO.out.s _ hmem
      have hmy := HM.out.pg _ hmem
      have hnw := HNo.out _ hmem
      have hsn : thA (x.sp.take (i + 1)) = thStep (thA (x.sp.take i)) x.sp[i] := by rw [List.take_succ_eq_append_getElem hin, thA_snoc]
      generalize x.sp[i] = p at *
      obtain ⟨pa, pp, pw, pt⟩ := p
      simp only at p0 p1 p2 p3 hob hmy hnw
      subst hnw
      obtain ⟨m1, m2, m3, m4, _⟩ := hmy
      simp only at m1 m2 m3 m4
      have iw : IntKind.i64.wrap ((i : Int) + 1) = (i : Int) + 1 := by have := HL.out; rw [IntKind.wrap_i64]; omega
      have hpb := heap_alloc_new wr (.cells #[.int .u32 pa, .int .u8 pp, .bool false, .string pt] 159)
      have hba : Below wr.heap.size wr (wr.alloc (.cells #[.int .u32 pa, .int .u8 pp, .bool false, .string pt] 159)) := (Below.refl _ _).alloc (Nat.le_refl _) _
      have HOw := Lib.hid (how.below hba)
      have HSn := Lib.hid hsn
      have HCo := Lib.hid hco
      have HPb := Lib.hid hpb
      have HQ := Lib.hid (show ¬ Spc.foot sb mb A wr.heap.size from fun q => absurd (how.spc.lt q) (Nat.lt_irrefl _))
      have HOb := Lib.hid (And.intro hob m4)
      clear hsn hco hpb hba how hbw hmem hob m1 m2 m3 m4 hgl
      go_wp2_with fail
      obtain ⟨wa, hwa⟩ : ∃ y, wr.alloc (.cells #[.int .u32 pa, .int .u8 pp, .bool false, .string pt] 159) = y := ⟨_, rfl⟩
      obtain ⟨qb, hqb⟩ : ∃ y, wr.heap.size = y := ⟨_, rfl⟩
      rw [hwa] at HOw HPb ⊢
      rw [hqb] at HPb HQ ⊢
      clear hwa hqb p0 p1 p2 p3
      have HMp := Lib.hid (Sp.map_any HOw.out.spc pa pp HOb.out.1.1.1 HOb.out.1.1.2 HOb.out.1.2.1 HOb.out.1.2.2)
      refine HMp.out.mono ?_
      rintro r wb ⟨rfl, hs4, hm4⟩
      have hqm : qb ≠ mb := fun e => HQ.out (.inr (.inl e))
      have hpb4 := (hm4.block _ (lt_of_block HPb.out) hqm).trans HPb.out
      have q0 : wb.cell? ⟨qb, 0, none⟩ = some (.int .u32 pa) := by unfold World.cell?; rw [hpb4]; rfl
      have q3 : wb.cell? ⟨qb, 3, none⟩ = some (.string pt) := by unfold World.cell?; rw [hpb4]; rfl
      have how4 := HOw.out.mod hs4 hm4 (fun k hk => .inr (.inl hk)) fun k hk => by
        rcases Sp.foot_mapA hk with rfl | g
        · exact .inr (Nat.le_refl _)
        · exact .inl g
      have HSt := Lib.hid (Sp.set how4.spc pa pt HOb.out.1.1.1 HOb.out.1.1.2 (by have := HOb.out.2; omega))
      have HOw4 := Lib.hid how4
      have HCo4 : Hid (∀ B, B = Sp.putA (Sp.mapA A pa wa.heap.size pp) pa 0 pt → cores B = cores (thA (x.sp.take (i + 1)))) := Lib.hid fun B hB => by
        rw [hB, HSn.out]
        exact Cor.putA (Cor.mapA HCo.out _ _ _ _) _ _ _
      clear hs4 hm4 hqm hpb4 how4 HMp HOw HPb HQ HSn HCo
      go_wp2_with fail
      refine HSt.out.mono ?_
      rintro r wc ⟨rfl, hs5, hm5⟩
      have how5 := HOw4.out.mod hs5 hm5 (fun k hk => .inr (.inr hk)) fun k hk => .inl (Sp.foot_putA.1 hk)
      have Fin : Hid (thRel w2 sb mb x.sp (.int .i64 ((i : Int) + 1)) wc) := Lib.hid ⟨i + 1, _, hin, by go_num, how5, HCo4.out _ rfl⟩
      clear hs5 hm5 how5 HSt HOw4 HCo4 q0 q3 HOb
      go_wp2
      exact ⟨⟨rfl, Fin.out⟩, by simp [intOf]; omega⟩
    · obtain rfl : i = x.sp.length := by omega
      rw [List.take_length] at hco
      have ii : ¬ (x.sp.length : Int) < x.sp.length := by omega
      have hbw := below_th HB2.out how.bel
      have HOw := Lib.hid how
      have HCo := Lib.hid hco
      have HBw := Lib.hid hbw
      clear how hco hbw
      go_wp2_with fail
      have HS : Hid (∀ V, Below w1.heap.size w1 V → V.cell? ⟨xb, 0, none⟩ = some (.int .u32 x.m.pages) ∧ V.cell? ⟨xb, 1, none⟩ = some (.slice eo x.m.ext.length ec) ∧ V.cell? ⟨xb, 2, none⟩ = some (.slice po x.m.ports.length pc) ∧ V.cell? ⟨xb, 3, none⟩ = some (.bool x.m.con) ∧ V.cell? ⟨xb, 21, none⟩ = some (.slice so x.sp.length sc) ∧ True) := Lib.hid fun V hV => by
        have q := (HAll.out V hV).1
        exact ⟨q.cell 0 _ rfl, q.cell 1 _ rfl, q.cell 2 _ rfl, q.cell 3 _ rfl, q.cell 21 _ rfl, trivial⟩
      have iws : IntKind.i64.wrap ((x.sp.length : Int) - 0) = x.sp.length := by have := HL.out; rw [IntKind.wrap_i64]; omega
      have iwt : IntKind.i64.wrap (x.sp.length : Int) = x.sp.length := by have := HL.out; rw [IntKind.wrap_i64]; omega
      have iwu : IntKind.u32.wrap (x.sp.length : Int) = x.sp.length := by have := HL.out; rw [IntKind.wrap_u32]; omega
      refine B (fun V => V.cell? ⟨xb, 0, none⟩ = some (.int .u32 x.m.pages) ∧ V.cell? ⟨xb, 1, none⟩ = some (.slice eo x.m.ext.length ec) ∧ V.cell? ⟨xb, 2, none⟩ = some (.slice po x.m.ports.length pc) ∧ V.cell? ⟨xb, 3, none⟩ = some (.bool x.m.con) ∧ V.cell? ⟨xb, 21, none⟩ = some (.slice so x.sp.length sc) ∧ True) (HS.out _ HBw.out.drew) fun wd hwd hS => ?_
      have HOd := Lib.hid (show Sp.Own w2 wd sb mb A by rw [hwd]; exact HOw.out.below (Below.refl _ _).drew)
      have HBd := Lib.hid (show Below w1.heap.size w1 wd by rw [hwd]; exact HBw.out.drew)
      clear hwd HOw HBw
      have hall := HAll.out wd HBd.out
      have HGr := Lib.hid (Kl.grant hall.2.2 HKb.out.1 HKb.out.2 (n := num) (pg := (x.sp.length : Int)) (by omega) hall.2.1.m HO.out.m)
      have HCp := Lib.hid (Kl.caps hall.2.2)
      clear hall
      refine T 0 hS ?_
      refine T 2 hS ?_
      refine T 3 hS ?_
      refine T 4 hS ?_
      refine T 5 hS ?_
      refine T 6 hS ?_
      refine T 7 hS ?_
      refine T 8 hS ?_
      refine T 9 hS ?_
      refine T 10 hS ?_
      refine T 11 hS ?_
      refine U 1 fun K' hK => ?_
      go_simp
      go_at_call 27
      refine HCp.out.mono ?_
      rintro r v1 ⟨rfl, rfl⟩
      refine V hK hS ?_; clear hK K'
      refine U 12 fun K' hK => ?_
      go_simp
      go_at_call 83
      refine HGr.out.mono ?_
      rintro r w6 (⟨hg, rfl, hb6⟩ | ⟨hg, rfl, a6, hs6⟩)
      · have HE := Lib.hid (HF1.out w6 hg (below_th HBd.out hb6))
        have hS6 := HS.out w6 (below_th HBd.out hb6)
        have hgb : (Ca.grantE K.hp K.hx K.g num x.m (x.sp.length : Int) != 0) = true := bne_iff_ne.2 hg
        clear hb6 hg HF1 HF2 HGr
        generalize Ca.grantE K.hp K.hx K.g num x.m (x.sp.length : Int) = gE at *
        refine V hK hS6 ?_; clear hK K'
        refine T 13 hS6 ?_
        refine wpAnyH_done (by kernel_rfl) ?_ _
        clear hS hS6
        go_wp2
        first | exact HE.out | (go_ret2; exact HE.out)
      · have hw0 : w.heap.size ≤ w2.heap.size := Nat.le_trans HB.out.size HB2.out.size
        have hxl : xb < w1.heap.size := lt_of_block (HAll.out w1 (Below.refl _ _)).1
        have hq6 : FBox w6 xb x (.slice eo x.m.ext.length ec) (.slice po x.m.ports.length pc) (.slice so x.sp.length sc) := (HAll.out wd HBd.out).1.keep hs6.mod fun g => g.1 (HTg.out _ (Nat.le_of_eq HXb.out))
        have hsp6 : Spc w6 sb mb A := HOd.out.spc.keep hs6.mod fun k hk g => g.1 (HTg.out _ (Nat.le_trans hw0 (HOd.out.base k hk)))
        have hnum := grant_num hg
        have HKs := Lib.hid ((KStep.of_below HKn.out (below_th HB.out HBd.out)).trans hs6)
        have HQ6 := Lib.hid hq6
        have HNw := Lib.hid (Ev.new hsp6 num x.pc hnum.1 hnum.2 HO.out.c.1 HO.out.c.2)
        have HNm := Lib.hid (show xb < w6.heap.size from Nat.lt_of_lt_of_le hxl (Nat.le_trans HBd.out.size hs6.mod.size))
        have HZ6 := Lib.hid (show w.heap.size ≤ w6.heap.size from Nat.le_trans HB.out.size (Nat.le_trans HBd.out.size hs6.mod.size))
        have HF3 := Lib.hid fun V e A h1 h2 h3 h4 => HF2.out V a6 e A hg h1 h2 h3 h4
        have hS6 : w6.cell? ⟨xb, 0, none⟩ = some (.int .u32 x.m.pages) ∧ w6.cell? ⟨xb, 1, none⟩ = some (.slice eo x.m.ext.length ec) ∧ w6.cell? ⟨xb, 2, none⟩ = some (.slice po x.m.ports.length pc) ∧ w6.cell? ⟨xb, 3, none⟩ = some (.bool x.m.con) ∧ w6.cell? ⟨xb, 21, none⟩ = some (.slice so x.sp.length sc) ∧ True := ⟨hq6.cell 0 _ rfl, hq6.cell 1 _ rfl, hq6.cell 2 _ rfl, hq6.cell 3 _ rfl, hq6.cell 21 _ rfl, trivial⟩
        have c20 : w6.cell? ⟨xb, 20, none⟩ = some (.int .u32 x.pc) := hq6.cell 20 _ rfl
        clear hw0 hxl hq6 hsp6 hnum hg hs6 HF1 HF2 HGr HCp HS HOd HBd HB HB2 HKn HAll iws iwt iwu hS
        refine V hK hS6 ?_; clear hK K'
        refine T 13 hS6 ?_
        refine wpAnyH_done (by kernel_rfl) ?_ _
        clear hS6
        go_wp2
        go_loopw [71] (fun vi wr => vi = .int .i64 0 ∧ w6 = wr) (fun _ _ => 0)
        case atStart => exact ⟨rfl, rfl⟩
        case round =>
          obtain ⟨rfl, rfl⟩ := hrel
          go_wp2_with fail
          refine HNw.out.mono ?_
          rintro r w7 ⟨e, C, rfl, hen, hcc, hef, hb7⟩
          have HEn := Lib.hid hen
          have HE7 := Lib.hid (And.intro hcc (And.intro hef hb7))
          clear hen hcc hef hb7 HNw c20
          go_wp2
          go_loopw [17, 91] (fun _ vi wr => vi = .int .i64 0 ∧ w7 = wr) (fun _ _ _ => 0)
          case atStart => exact ⟨rfl, rfl⟩
          case round =>
            obtain ⟨rfl, rfl⟩ := hrel
            go_wp2
            go_loopw [18] (fun vi wr => thr4 w7 e (En.new num x.pc C) (fun i => x.r i) vi wr) (fun vi _ => 16 - (intOf vi).toNat)
            case atStart => exact ⟨1, by omega, by omega, by go_num, EStep.refl HEn.out⟩
            case round =>
              obtain ⟨i, i1, i16, rfl, hst⟩ := hrel
              have hxe : ∀ k, e.foot C k → k ≠ xb := fun k hk => by have := HE7.out.2.1 k hk; have := HNm.out; omega
              have hbx : FBox wr xb x (.slice eo x.m.ext.length ec) (.slice po x.m.ports.length pc) (.slice so x.sp.length sc) := (HQ6.out.keep (Mod.of_below HE7.out.2.2 fun _ => False) id).keep hst.mod fun g => hxe _ g rfl
              have HSt := Lib.hid hst
              have HBx := Lib.hid hbx
              clear hxe
              by_cases hin : i < 16
              · have ii : (i : Int) < 16 := by omega
                have i0 : (0 : Int) ≤ (i : Int) := by omega
                have hc : wr.cell? ⟨xb, 4 + i, none⟩ = some (.int .u32 (x.r i)) := hbx.cell (4 + i) _ (arr_getr _ _ _ _ i hin)
                have hbd := HO.out.r i
                clear hst hbx
                go_wp2_with fail
                refine B (fun V => V.cell? ⟨xb, 4 + i, none⟩ = some (.int .u32 (x.r i)) ∧ True) ⟨hc, trivial⟩ fun wd hwd hS => ?_
                have HSd := Lib.hid (show EStep w7 wd e _ e _ by rw [hwd]; exact HSt.out.below (Below.refl _ _).drew)
                have HCp := Lib.hid (Ev.cpu HSd.out.env)
                have HSR := Lib.hid (Cp.setReg_ok HSd.out.env.cp i hin (x.r i) hbd.1 hbd.2)
                clear hwd hc HSt HBx hbd
                refine T 0 hS ?_
                refine T 2 hS ?_
                refine T 3 hS ?_
                refine T 4 hS ?_
                refine T 5 hS ?_
                refine T 6 hS ?_
                refine U 1 fun K' hK => ?_
                go_simp
                go_at_call 77
                refine HCp.out.mono ?_
                rintro r v1 ⟨rfl, rfl⟩
                refine V hK hS ?_; clear hK K'
                refine U 7 fun K' hK => ?_
                go_simp
                go_at_call 86
                refine HSR.out.mono ?_
                rintro r v1 ⟨rfl, hcp, hmm⟩
                have hst2 := HSd.out.trans (EStep.regs HSd.out.env hcp hmm)
                have Fin : Hid (thr4 w7 e (En.new num x.pc C) (fun i => x.r i) (.int .i64 ((i : Int) + 1)) v1) := Lib.hid ⟨i + 1, by omega, by omega, by go_num, by
                  rw [← Cp.regsK_succ _ i hin]
                  exact hst2⟩
                have hS1 : v1.cell? ⟨xb, 4 + i, none⟩ = some (.int .u32 (x.r i)) ∧ True := ⟨(World.cell?_of_block (w := wd) (hmm.block xb (Ca.clt hS.1) fun q => by have h1 := HE7.out.2.1 _ (.inr (.inl q)); have h2 := HNm.out; omega)).trans hS.1, trivial⟩
                clear hcp hmm hst2 HSd HCp HSR hS
                refine V hK hS1 ?_; clear hK K'
                refine wpAnyH_done (by kernel_rfl) ?_ _
                clear hS1
                go_wp2
                exact ⟨Fin.out, by simp [intOf]; omega⟩
              · obtain rfl : i = 16 := by omega
                have c22 : wr.cell? ⟨xb, 22, none⟩ = some (.string x.text) := hbx.cell 22 _ rfl
                have HPt := Lib.hid (Ev.put HSt.out.env x.text (by have := HM.out.tx; omega))
                clear hst hbx
                go_wp2_with fail
                refine HPt.out.mono ?_
                rintro r w9 ⟨rfl, hs9⟩
                have hst9 := HSt.out.trans hs9
                have hb9 : Below w6.heap.size w6 w9 := Mod.below HE7.out.2.2 hst9.mod HE7.out.2.2.size fun i _ g => HE7.out.2.1 i g
                have hend := HF3.out w9 e C (HKs.out.trans (KStep.of_below HKs.out.k hb9)) hst9.env (HE7.out.1.trans HCo.out) fun k hk => ?_
                · clear hst9 hb9 hs9 HSt HBx c22 HPt
                  have HEnd := Lib.hid hend
                  clear hend
                  go_wp2
                  first | exact HEnd.out | (go_ret2; exact HEnd.out)
                · have h1 := HE7.out.2.1 k hk
                  exact ⟨Nat.le_trans HZ6.out h1, Decidable.byContradiction fun g => absurd (HKs.out.k.lt k g) (by omega)⟩
end Go.Proofs.YtgdodbcpnmfnnaaGreat.Fz
namespace Go.Proofs.YtgdodbcpnmfnnaaGreat.Fz
open Go.RowKit Word
set_option linter.unusedVariables false
set_option linter.unusedSimpArgs false
set_option maxRecDepth 100000 in
set_option maxHeartbeats 4000000 in
theorem take_nil (p q : Option Addr) (h : p = none ∨ q = none) (w : World) : Calls Tryz.prog 22 #[.pointer p, .pointer q] w fun r w' => r = .returned (.tuple #[.agg (zeroFr.arr nl nl nl), .int .i64 1]) ∧ Below w.heap.size w w' := by
  have hz : FBox (w.alloc (.cells (zeroFr.arr nl nl nl) 49)) w.heap.size zeroFr nl nl nl := heap_alloc_new w _
  have hbz : Below w.heap.size w (w.alloc (.cells (zeroFr.arr nl nl nl) 49)) := (Below.refl _ _).alloc (Nat.le_refl _) _
  obtain ⟨hs, hm⟩ := hz.sets zeroFr nl nl nl
  have hbe : Below w.heap.size w (World.setCells (w.alloc (.cells (zeroFr.arr nl nl nl) 49)) w.heap.size 0 (zeroFr.arr nl nl nl).toList) := Mod.below hbz hm hbz.size fun i _ e => by omega
  have HS := Lib.hid (And.intro hs hbe)
  have HZ := Lib.hid hz
  have HSi := Lib.hid (fz_sizeL zeroFr nl nl nl)
  generalize hPQ : (fun (r : Ending) (w' : World) => r = .returned (.tuple #[.agg (zeroFr.arr nl nl nl), .int .i64 1]) ∧ Below w.heap.size w w') = PQ
  have HP : Hid (∀ V, Below w.heap.size w V → PQ (.returned (.tuple #[.agg (zeroFr.arr nl nl nl), .int .i64 1])) V) := Lib.hid fun V h => by rw [← hPQ]; exact ⟨rfl, h⟩
  clear hz hbz hs hm hbe hPQ
  have fin : ∀ V, FBox V w.heap.size zeroFr nl nl nl → Below w.heap.size w V → PQ (.returned (.tuple #[.agg (zeroFr.arr nl nl nl), .int .i64 1])) V := fun V _ h2 => HP.out V h2
  have HF := Lib.hid fin
  clear fin
  have h' : p = none ∨ (∃ b, p = some b) ∧ q = none := by
    cases p with
    | none => exact .inl rfl
    | some b => exact .inr ⟨⟨b, rfl⟩, h.resolve_left (by simp)⟩
  clear h
  rcases h' with rfl | ⟨⟨b, rfl⟩, rfl⟩
  all_goals
    go_enter Tryz.func22, Tryz.ntmps22
    go_wp2_with (first
      | (refine wpList_load_mid rfl 49 _ rfl w.heap.size 0 rfl _ _ HZ.out.range Tryz.underlying49 rfl HSi.out ?_; rw [Array.toArray_toList])
      | refine wpList_store_mid rfl 49 _ _ rfl w.heap.size 0 (zeroFr.arr nl nl nl) rfl rfl HZ.out.there (fz_size _ _ _ _) (by kernel_rfl) ?_)
    exact bodyPost_ret (results_box Tryz.results22 rfl rfl HS.out.1.result) rfl (HF.out _ HS.out.1 HS.out.2)
set_option maxRecDepth 100000 in
set_option maxHeartbeats 4000000 in
theorem thaw_nil (num : Int) (x : Fr) (ev pv sv : Value) (w : World) : Calls Tryz.prog 23 #[.pointer none, .int .i64 num, .agg (x.arr ev pv sv)] w fun r w' => r = .returned (.tuple #[.pointer none, .int .i64 1]) ∧ Below w.heap.size w w' := by
  have HB : Hid (Below w.heap.size w (w.alloc (.cells (x.arr ev pv sv) 49))) := Lib.hid ((Below.refl _ _).alloc (Nat.le_refl _) _)
  unfold Fr.arr at HB ⊢
  go_enter Tryz.func23, Tryz.ntmps23
  go_wp2
  first | exact ⟨rfl, HB.out⟩ | (go_ret2; exact ⟨rfl, HB.out⟩)
set_option maxRecDepth 100000 in
set_option maxHeartbeats 4000000 in
theorem run1 {w : World} {e : EAt} {E : En} (h : Env w e E) (hk : E.kind = 2) (hs : E.stop.1 ≠ 1) (k : Option Addr) : Calls Tryz.prog 74 #[.pointer k, .pointer (some ⟨e.eb, 0, none⟩), .int .i64 1] w fun r w' => r = .returned (.slice none 0 0) ∧ EStep w w' e E e E.step := by
  have HE := Lib.hid h
  have hkd : (E.kind == 2) = true := by rw [hk]; rfl
  have hsd : (E.stop.1 != 1) = true := bne_iff_ne.2 hs
  have hfd := fun V => kindOf E.kind E.code E.why V
  have HS := Lib.hid (Ev.state h)
  clear h hk hs
  go_enter Tryz.func74, Tryz.ntmps74
  go_wp2
  refine wp_loop_rounds 2 ?_
  rw [rounds_succ]
  go_wp2_with fail
  refine HS.out.mono ?_
  rintro r w1 ⟨rfl, hb1⟩
  have HE1 := Lib.hid (HE.out.below hb1)
  have HB1 := Lib.hid hb1
  clear hb1
  go_wp2_with fail
  refine (Ev.step HE1.out).mono ?_
  rintro r w2 ⟨rfl, hs2⟩
  have HS2 := Lib.hid ((EStep.of_below HE.out HB1.out).trans hs2)
  clear hs2
  go_wp2_with fail
  have HW := Lib.hid (HS2.out.below ((Below.refl _ _).alloc (Nat.le_refl _) (.cells #[.int .u8 E.stop.1, .int .u32 E.stop.2.1, .int .i64 E.stop.2.2] 236)))
  clear HS2
  rw [rounds_succ]
  go_wp2
  first | exact ⟨rfl, HW.out⟩ | (go_ret; exact ⟨rfl, HW.out⟩)
end Go.Proofs.YtgdodbcpnmfnnaaGreat.Fz
namespace Go.Proofs.YtgdodbcpnmfnnaaGreat.Fz
open Go.RowKit Word L22 In
set_option linter.unusedVariables false
set_option linter.unusedSimpArgs false
theorem frOf_like {E F : En} (h : En.Like E F) (m : Mn) : frOf m E = frOf m F := by
  have h1 : frSp E.A E.own = frSp F.A F.own := by
    unfold frSp
    rw [Cor.addrs_eq h.A, h.own]
    refine List.map_congr_left fun x _ => ?_
    rw [Cor.permV h.A, Cor.getS h.A]
  unfold frOf
  rw [h1, h.pc, h.text]
  congr 1
  funext i
  exact h.arg i
theorem argBd {w : World} {e : EAt} {E : En} (h : Env w e E) (n : Int) : 0 ≤ E.arg n ∧ E.arg n ≤ 4294967295 := by
  unfold En.arg
  split
  · exact Cp.rg_bd h.cp.regs n
  · omega
theorem frOf_ok {w : World} {e : EAt} {E : En} (h : Env w e E) {m : Mn} (hm : m.ok) : (frOf m E).ok := by
  refine ⟨hm, fun i => argBd h i, ⟨h.cp.p0, h.cp.p1⟩, fun p hp => ?_⟩
  obtain ⟨x, hx, rfl⟩ := List.mem_map.1 hp
  obtain ⟨q, hq, rfl⟩ := List.mem_map.1 hx
  have hk := h.sp.ok q hq
  refine ⟨⟨hk.a0, by have := hk.a1; show q.addr ≤ 4294967295; omega⟩, ?_⟩
  show 0 ≤ Sp.permV E.A q.addr ∧ Sp.permV E.A q.addr ≤ 255
  unfold Sp.permV
  cases hg : pageAt E.A q.addr with
  | none => exact ⟨Int.le_refl 0, by decide⟩
  | some z =>
    have hz := h.sp.ok z (atAddr_mem hg).1
    have := hz.p0
    have := hz.p1
    exact ⟨by show 0 ≤ z.perm; omega, by show z.perm ≤ 255; omega⟩
def cd42 : Nat → Ins := fun _ => ⟨32, 1, 0, 0, 7⟩
def st42 (P C : Nat) : Cp.St := ⟨none, 0, 0, fun _ => 0, 256, some ⟨P, 0, none⟩, 2, 2, fun i => if i = 0 then 8 else 4, 256, some ⟨C, 0, none⟩, 1, 1, cd42, 0, ByteArray.empty⟩
def m42n : Mn := ⟨0, [], [], true⟩
def wd42 (P C : Nat) : WdI := ⟨⟨40, none, 0, []⟩, ⟨m42n, none, 0, none, 0⟩, st42 P C, none, 0, []⟩
def pm42 : Array Value := #[.int .u8 8, .int .u8 4]
def ca42 : Array Value := #[.int .u8 32, .int .u8 1, .int .u8 0, .int .u8 0, .int .u32 7]
theorem cd42_ok (i : Nat) : (cd42 i).ok := by
  show (⟨32, 1, 0, 0, 7⟩ : Ins).ok
  exact ⟨by decide, by decide, by decide, by decide, by decide, by decide, by decide, by decide, by decide, by decide⟩
theorem st42_pre {w : World} {P C : Nat} (h0 : w.heap[P]? = some (.cells pm42 5 (0, 0))) (h1 : w.heap[C]? = some (.cells ca42 161 (0, 0))) : (st42 P C).pre w where
  rrow := fun h => absurd h (Nat.not_lt_zero _)
  rbd := fun i hi => absurd hi (Nat.not_lt_zero _)
  rlen := (by decide : (0 : Nat) ≤ 9223372036854775807)
  p0 := (by decide : (0 : Int) ≤ 256)
  p1 := (by decide : (256 : Int) ≤ 4294967295)
  prow := fun _ => ⟨P, 0, rfl, lt_of_block h0, fun i hi => by
    have : i = 0 ∨ i = 1 := by have : i < 2 := hi; omega
    rcases this with rfl | rfl <;> (unfold World.cell?; rw [h0]; rfl)⟩
  pbd := fun i hi => by
    show 0 ≤ (if i = 0 then (8 : Int) else 4) ∧ (if i = 0 then (8 : Int) else 4) ≤ 255
    split <;> omega
  a0 := (by decide : (0 : Int) ≤ 256)
  a1 := (by decide : (256 : Int) ≤ 65535)
  crow := fun _ => ⟨C, 0, rfl, fun i hi => by
    have : i = 0 := by have : i < 1 := hi; omega
    subst this
    refine ⟨?_, ?_, ?_, ?_, ?_⟩ <;> (unfold World.cell?; rw [h1]; rfl)⟩
  cbd := fun i hi => cd42_ok i
  w0 := (by decide : (0 : Int) ≤ 0)
  w1 := (by decide : (0 : Int) ≤ 65535)
theorem st42_ok {w : World} {P C : Nat} (h : (st42 P C).pre w) : (st42 P C).ok w :=
  ⟨h.rrow, h.rbd, h.rlen, h.p0, h.p1, h.prow, h.pbd, (by decide : 2 ≤ 16), h.a0, h.a1, h.crow, h.cbd, (by decide : 1 ≤ 1000), h.w0, h.w1, (by decide : ByteArray.empty.size ≤ 65536)⟩
theorem wd42_pre {w : World} {P C : Nat} (h : (st42 P C).pre w) : (wd42 P C).pre w :=
  ⟨⟨(by decide : (0 : Int) ≤ 40), (by decide : (40 : Int) ≤ 4294967295), ⟨fun i hi => absurd hi (Nat.not_lt_zero _), by simp [wd42]⟩, fun x hx => nomatch hx⟩, ⟨⟨⟨rfl, ⟨none, 0, rfl, fun j u hu => by simp [wd42, m42n, extC] at hu⟩, Nat.zero_le _⟩, ⟨rfl, ⟨none, 0, rfl, fun j u hu => by simp [wd42, m42n] at hu⟩, Nat.zero_le _⟩⟩, ⟨(by decide : (0 : Int) ≤ 0), (by decide : (0 : Int) ≤ 4294967295), fun x hx => (nomatch hx), fun x hx => (nomatch hx)⟩⟩, h, ⟨fun i hi => absurd hi (Nat.not_lt_zero _), fun s hs => (nomatch hs), by simp [wd42]⟩⟩
def en42 : En := (st42 0 0).env 1
def x42 : Fr := frOf m42n en42.step
def k42 : Kn := { Kn.new 40 [] with g := Gp.upd (fun _ => none) 1 (some ⟨m42n, 8, 0⟩) }
def k42b : Kn := { k42 with g := Gp.upd k42.g 2 (some ⟨m42n, 1, 0⟩) }
theorem n42 : (Ca.hardOk 40 [], en42.kind, en42.num, en42.step.num, en42.step.kind, en42.stop.1) = (true, 2, 1, 1, 2, 0) := by kernel_rfl
theorem g42 : (Ca.grantE 40 [] (fun _ => none) 1 m42n 8, Ca.grantE k42.hp k42.hx k42.g 2 m42n 1, Ca.grantE k42b.hp k42b.hx k42b.g 2 m42n 1) = (0, 0, 9) := by kernel_rfl
theorem s42 : x42.sp.map (fun p => (p.addr, p.perm, p.own, p.text.size)) = [(256, 4, false, 256)] := by kernel_rfl
theorem v42 : (x42.r 0, x42.pc, x42.text.size, (putL' x42).length) = (0, 264, 0, 341) := by kernel_rfl
theorem t42 (A : List Pg) : ((thE 2 x42 A).arg 1, (thE 2 x42 A).pc, (thE 2 x42 A).num) = (7, 264, 2) := by kernel_rfl
theorem asked42 (P C : Nat) : asked8 (wd42 P C) = k42 := by
  unfold asked8
  have := g42
  simp only [Prod.mk.injEq] at this
  exact if_pos this.1
theorem sp42 : ∃ t : ByteArray, t.size = 256 ∧ x42.sp = [⟨256, 4, false, t⟩] := by
  have h := s42
  generalize x42.sp = l at *
  cases l with
  | nil => cases h
  | cons p l =>
    cases l with
    | nil =>
      simp only [List.map_cons, List.map_nil, List.cons.injEq, Prod.mk.injEq, and_true] at h
      obtain ⟨pa, pp, po, pt⟩ := p
      obtain ⟨h1, h2, h3, h4⟩ := h
      simp only at h1 h2 h3 h4
      subst h1 h2 h3
      exact ⟨pt, h4, rfl⟩
    | cons q l => simp at h
theorem may42 : x42.may := by
  obtain ⟨t, ht, hs⟩ := sp42
  have hv := v42
  simp only [Prod.mk.injEq] at hv
  refine ⟨fun p hp => ?_, ?_, by kernel_rfl, hv.1, ?_, by omega, .inl rfl⟩
  · rw [hs] at hp
    simp only [List.mem_singleton] at hp
    subst hp
    exact ⟨(by decide : (256 : Int) % 256 = 0), (by decide : (256 : Int) < 1048576), (by decide : (4 : Int) ≤ 7), ht, .inl rfl⟩
  · rw [hs]; exact List.pairwise_singleton _ _
  · rw [hs]; exact (by decide : (0 : Int) ≤ 0)
end Go.Proofs.YtgdodbcpnmfnnaaGreat.Fz
namespace Go.Proofs.YtgdodbcpnmfnnaaGreat.Fz
open Go.RowKit Word
set_option linter.unusedVariables false
set_option linter.unusedSimpArgs false
def rT (x : Fr) (z : List UInt8) : List UInt8 := pL x.text.size 2 ++ (tl x.text ++ z)
def rS (x : Fr) (z : List UInt8) (i : Nat) : List UInt8 := (x.sp.drop i).flatMap pageL ++ rT x z
def rC (x : Fr) (z : List UInt8) : List UInt8 := pL (bit01 x.m.con) 1 ++ (pL x.sp.length 2 ++ rS x z 0)
def rM (x : Fr) (z : List UInt8) : List UInt8 := pL x.m.pages 4 ++ (pL (0 : Nat) 1 ++ (pL (0 : Nat) 1 ++ rC x z))
def rG (x : Fr) (z : List UInt8) (i : Nat) : List UInt8 := bytesL 4 ((regL x.r).drop i) ++ rM x z
def mg : ByteArray := ⟨#[65, 70, 90, 49]⟩
theorem put_split {x : Fr} {z : List UInt8} (he : x.m.ext = []) (hq : x.m.ports = []) : putL' x ++ z = tl mg ++ (pL x.pc 4 ++ rG x z 0) := by
  unfold putL' rG rM rC rS rT manL
  rw [he, hq]
  simp only [List.append_assoc, List.flatMap_nil, List.nil_append, List.length_nil, List.drop_zero]
  rfl
theorem rG_step (x : Fr) (z : List UInt8) (i : Nat) (hi : i < 15) : rG x z i = pL (x.r (i + 1)) 4 ++ rG x z (i + 1) := by
  have : i = 0 ∨ i = 1 ∨ i = 2 ∨ i = 3 ∨ i = 4 ∨ i = 5 ∨ i = 6 ∨ i = 7 ∨ i = 8 ∨ i = 9 ∨ i = 10 ∨ i = 11 ∨ i = 12 ∨ i = 13 ∨ i = 14 := by omega
  rcases this with rfl | rfl | rfl | rfl | rfl | rfl | rfl | rfl | rfl | rfl | rfl | rfl | rfl | rfl | rfl
  all_goals exact List.append_assoc _ _ _
theorem rS_step (x : Fr) (z : List UInt8) (i : Nat) (hi : i < x.sp.length) : rS x z i = pageL x.sp[i] ++ rS x z (i + 1) := by
  unfold rS
  rw [List.drop_eq_getElem_cons hi, List.flatMap_cons, List.append_assoc]
def gX (x : Fr) (i : Nat) : Fr := { zeroFr with pc := x.pc, r := fun j => if 1 ≤ j ∧ j < i then x.r j else 0 }
def gM (x : Fr) : Fr := { gX x 16 with m := ⟨x.m.pages, [], [], false⟩ }
def gC (x : Fr) : Fr := { gX x 16 with m := ⟨x.m.pages, [], [], x.m.con⟩ }
def gS (x : Fr) (i : Nat) : Fr := { gC x with sp := x.sp.take i }
def gT (x : Fr) : Fr := { gC x with sp := x.sp, text := x.text }
theorem gT_arr {x : Fr} (h0 : x.r 0 = 0) (ev pv sv : Value) : (gT x).arr ev pv sv = x.arr ev pv sv :=
  arr_cong (x := gT x) (y := x) rfl rfl (fun j hj => by
    show (if 1 ≤ j ∧ j < 16 then x.r j else 0) = x.r j
    by_cases q : 1 ≤ j
    · rw [if_pos ⟨q, hj⟩]
    · rw [if_neg (fun g => q g.1), show j = 0 by omega, h0]) rfl rfl _ _ _
def gtRel (w0 : World) (n : Nat) (s : ByteArray) (x : Fr) (z : List UInt8) (vi : Value) (wr : World) : Prop :=
  ∃ i k : Nat, 1 ≤ i ∧ i ≤ 16 ∧ vi = .int .i64 i ∧ GG w0 n s (gX x i) wr k nl (rG x z (i - 1))
set_option maxRecDepth 100000 in
set_option maxHeartbeats 4000000 in
theorem get {w : World} {x : Fr} (ho : x.ok) (hm : x.may) (hl : x.sp.length < 65536) (he : x.m.ext = []) (hq : x.m.ports = []) {s : ByteArray} {z : List UInt8} (hs : tl s = putL' x ++ z) (hz : s.size ≤ maxLen) :
    Calls Tryz.prog 76 #[.string s] w fun e w' => Below w.heap.size w w' ∧ ((z = [] ∧ ∃ sv, e = .returned (.tuple #[.agg (x.arr nl nl sv), .int .i64 0]) ∧ SlV w' 159 4 sv x.sp.length (pgC x.sp) ∧ ∀ g, sv.ownBlock = some g → w.heap.size ≤ g ∧ g < w'.heap.size) ∨ (z ≠ [] ∧ e = .returned (.tuple #[.agg (zeroFr.arr nl nl nl), .int .i64 7]))) := by
  have HN := Lib.hid fun V => pnew s V
  have hsp := hs.trans (put_split he hq)
  have HSp := Lib.hid hsp
  have HZ := Lib.hid hz
  have HO := Lib.hid ho
  have HM := Lib.hid hm
  have HL := Lib.hid hl
  have HE := Lib.hid (And.intro he hq)
  have HS := Lib.hid hs
  clear hsp hz ho hm hl he hq hs
  generalize hPQe : (fun (e : Ending) (w' : World) => Below w.heap.size w w' ∧ ((z = [] ∧ ∃ sv, e = .returned (.tuple #[.agg (x.arr nl nl sv), .int .i64 0]) ∧ SlV w' 159 4 sv x.sp.length (pgC x.sp) ∧ ∀ g, sv.ownBlock = some g → w.heap.size ≤ g ∧ g < w'.heap.size) ∨ (z ≠ [] ∧ e = .returned (.tuple #[.agg (zeroFr.arr nl nl nl), .int .i64 7])))) = PQ
  obtain ⟨n, hn⟩ : ∃ y, w.heap.size = y := ⟨_, rfl⟩
  have hPQ : Hid (∀ e W, Below n w W → ((z = [] ∧ ∃ sv, e = .returned (.tuple #[.agg (x.arr nl nl sv), .int .i64 0]) ∧ SlV W 159 4 sv x.sp.length (pgC x.sp) ∧ ∀ g, sv.ownBlock = some g → n ≤ g ∧ g < W.heap.size) ∨ (z ≠ [] ∧ e = .returned (.tuple #[.agg (zeroFr.arr nl nl nl), .int .i64 7]))) → PQ e W) := Lib.hid fun e W h1 h2 => by rw [← hPQe, ← hn] at *; exact ⟨h1, h2⟩
  have HNn := Lib.hid hn
  clear hPQe hn
  go_enter Tryz.func76, Tryz.ntmps76
  go_wp2_with fail
  refine (HN.out _).mono ?_
  rintro e w1 ⟨rfl, rfl⟩
  have hn := HNn.out
  dsimp only
  iterate 18 go_step
  simp only [hn, Nat.add_assoc, Nat.reduceAdd]
  go_step
  refine wpList_store_mid rfl 49 (.tmp 5) (.tmp 15) rfl (n + 4) 0 (zeroFr.arr nl nl nl) rfl rfl (GG.init hn s rfl).1.there (fz_size zeroFr nl nl nl) (by kernel_rfl) ?_
  refine (fun (F : ∀ V, GG w n s zeroFr V 0 nl (tl s) → wpList Tryz.prog _ _ _ _ V) => F _ (GG.init hn s rfl).2) ?_
  intro w00 hg
  have HG := Lib.hid hg
  clear hn hg
  have c0 := HG.out.c0
  have c1 := HG.out.c1
  have HTk := Lib.hid (takeV HG.out.g.fr.r HZ.out HG.out.g.kle (t := mg) (n := 4) rfl (HG.out.g.drp.trans HSp.out))
  go_wp2_with fail
  refine HTk.out.mono ?_
  rintro e w1 ⟨rfl, h1, m1, k1, d1⟩
  have g1 : GG w n s zeroFr w1 (0 + 4) nl (pL x.pc 4 ++ rG x z 0) := HG.out.read ⟨h1, (m1.block _ (lt_of_block HG.out.g.fr.h) HG.out.g.fr.ne).trans HG.out.g.fr.h⟩ k1 d1 m1
  have HNm := Lib.hid (g1.num (.inr (.inr rfl)) HZ.out ⟨HO.out.c.1, by have := HO.out.c.2; show x.pc < 256 ^ 4; omega⟩ rfl)
  have c0 := g1.c0
  clear g1 h1 m1 k1 d1 HG c1 HTk
  go_wp2_with fail
  refine HNm.out.mono ?_
  rintro e w2 ⟨rfl, g2⟩
  have g3 : GG w n s (gX x 1) (w2.setCell ⟨n + 4, 20, none⟩ (.int .u32 x.pc)) (0 + 4 + 4) nl (rG x z 0) := g2.set 20 _ (by
    rw [arr_cong (x := gX x 1) (y := { zeroFr with pc := x.pc }) rfl rfl (fun j hj => by show (if 1 ≤ j ∧ j < 1 then x.r j else 0) = 0; rw [if_neg (by omega)]) rfl rfl]
    kernel_rfl) rfl
  have b2 := g2.g.box.cell 20 _ rfl
  have f2 := g2.g.box.thaw 20
  have HR0 : Hid (gtRel w n s x z (.int .i64 1) (w2.setCell ⟨n + 4, 20, none⟩ (.int .u32 x.pc))) := Lib.hid ⟨1, _, by omega, by omega, by go_num, g3⟩
  clear g2 g3 HNm c0
  go_wp2
  go_loopw [6] (fun vi wr => gtRel w n s x z vi wr) (fun vi _ => 16 - (intOf vi).toNat)
  case atStart => exact HR0.out
  case round =>
    clear HR0 b2 f2
    obtain ⟨i, k, i1, i16, rfl, hg⟩ := hrel
    have HG := Lib.hid hg
    have c0 := hg.c0
    clear hg
    by_cases hin : i < 16
    · have ii : (i : Int) < 16 := by omega
      have i0 : (0 : Int) ≤ (i : Int) := by omega
      have hr := HO.out.r i
      have hst : rG x z (i - 1) = pL (x.r i) 4 ++ rG x z i := by
        have := rG_step x z (i - 1) (by omega)
        rw [show i - 1 + 1 = i by omega] at this
        exact this
      have HNm := Lib.hid (HG.out.num (.inr (.inr rfl)) HZ.out ⟨hr.1, by have := hr.2; show x.r i < 256 ^ 4; omega⟩ hst)
      clear hr hst
      go_wp2_with fail
      refine HNm.out.mono ?_
      rintro e w3 ⟨rfl, g3⟩
      have b3 : w3.cell? ⟨n + 4, 4 + i, none⟩ = some (.int .u32 ((gX x i).r i)) := g3.g.box.cell (4 + i) _ (arr_getr _ _ _ _ i hin)
      have f3 := g3.g.box.thaw (4 + i)
      have g4 : GG w n s (gX x (i + 1)) (w3.setCell ⟨n + 4, 4 + i, none⟩ (.int .u32 (x.r i))) (k + 4) nl (rG x z i) := g3.set (4 + i) _ (by
        rw [arr_reg _ _ _ _ i hin]
        refine arr_cong (x := { gX x i with r := upd (gX x i).r i (x.r i) }) (y := gX x (i + 1)) rfl rfl (fun j hj => ?_) rfl rfl _ _ _
        show (if j = i then x.r i else if 1 ≤ j ∧ j < i then x.r j else 0) = if 1 ≤ j ∧ j < i + 1 then x.r j else 0
        by_cases q : j = i
        · subst q; rw [if_pos rfl, if_pos ⟨i1, by omega⟩]
        · rw [if_neg q]
          by_cases q2 : 1 ≤ j ∧ j < i
          · rw [if_pos q2, if_pos ⟨q2.1, by omega⟩]
          · rw [if_neg q2, if_neg (by omega)]) rfl
      have fin : gtRel w n s x z (.int .i64 ((i : Int) + 1)) (w3.setCell ⟨n + 4, 4 + i, none⟩ (.int .u32 (x.r i))) := ⟨i + 1, _, by omega, by omega, by go_num, by rw [Nat.add_sub_cancel]; exact g4⟩
      have Fin := Lib.hid fin
      clear g3 g4 fin HNm c0 HG
      go_wp2
      exact ⟨Fin.out, by simp [intOf]; omega⟩
    · obtain rfl : i = 16 := by omega
      have hpg := HO.out.m
      have HNm := Lib.hid (HG.out.num (v := x.m.pages) (r' := pL (0 : Nat) 1 ++ (pL (0 : Nat) 1 ++ rC x z)) (.inr (.inr rfl)) HZ.out ⟨hpg.p0, by have := hpg.p1; show x.m.pages < 256 ^ 4; omega⟩ rfl)
      clear hpg
      go_wp2_with fail
      refine HNm.out.mono ?_
      rintro e w4 ⟨rfl, g4⟩
      have b4 := g4.g.box.cell 0 _ rfl
      have f4 := g4.g.box.thaw 0
      have g5 : GG w n s (gM x) (w4.setCell ⟨n + 4, 0, none⟩ (.int .u32 x.m.pages)) _ nl _ := g4.set 0 _ (by kernel_rfl) rfl
      have hc5 := g5.c0
      have HMa := Lib.hid (many g5.g.fr HZ.out g5.g.kle (n := 1) (.inl rfl) (cnt := 0) ⟨by omega, by decide⟩ (r := pL (0 : Nat) 1 ++ rC x z) g5.g.drp 182 #[.pointer (some ⟨n + 3, 0, none⟩), .pointer (some ⟨n + 4, 0, none⟩)] (enters_of Tryz.func182 (by kernel_rfl) rfl) (fun i V => ∃ k, GG w n s (gM x) V k nl (pL (0 : Nat) 1 ++ rC x z)) (fun V h1 h2 h3 h4 => ⟨_, g5.read h1 h4 h3 h2⟩) (fun i V ⟨k, h⟩ => ⟨k, h.g.fr⟩) fun i V hi => absurd hi (Nat.not_lt_zero _))
      clear g4 g5 HNm HG c0
      go_wp2_with fail
      refine HMa.out.mono ?_
      rintro e w6 ⟨rfl, k6, g6⟩
      have c6 := g6.c0
      have HMb := Lib.hid (many g6.g.fr HZ.out g6.g.kle (n := 1) (.inl rfl) (cnt := 0) ⟨by omega, by decide⟩ (r := rC x z) g6.g.drp 183 #[.pointer (some ⟨n + 4, 0, none⟩), .pointer (some ⟨n + 3, 0, none⟩)] (enters_of Tryz.func183 (by kernel_rfl) rfl) (fun i V => ∃ k, GG w n s (gM x) V k nl (rC x z)) (fun V h1 h2 h3 h4 => ⟨_, g6.read h1 h4 h3 h2⟩) (fun i V ⟨k, h⟩ => ⟨k, h.g.fr⟩) fun i V hi => absurd hi (Nat.not_lt_zero _))
      clear g6 HMa b4 f4 hc5
      go_wp2_with fail
      refine HMb.out.mono ?_
      rintro e w7 ⟨rfl, k7, g7⟩
      have c7 := g7.c0
      have HNb := Lib.hid (g7.num (v := bit01 x.m.con) (r' := pL x.sp.length 2 ++ rS x z 0) (.inl rfl) HZ.out (by cases x.m.con <;> exact ⟨by decide, by decide⟩) rfl)
      clear g7 HMb c6
      go_wp2_with fail
      refine HNb.out.mono ?_
      rintro e w8 ⟨rfl, g8⟩
      have b8 := g8.g.box.cell 3 _ rfl
      have f8 := g8.g.box.thaw 3
      have hb8 : (bit01 x.m.con == 1) = x.m.con := by cases x.m.con <;> rfl
      have g9 : GG w n s (gC x) (w8.setCell ⟨n + 4, 3, none⟩ (.bool x.m.con)) _ nl _ := g8.set 3 _ (by kernel_rfl) rfl
      have c9 := g9.c0
      have HMc := Lib.hid (many g9.g.fr HZ.out g9.g.kle (n := 2) (.inr (.inl rfl)) (cnt := x.sp.length) ⟨by omega, by have := HL.out; show (x.sp.length : Int) < 256 ^ 2; omega⟩ (r := rS x z 0) g9.g.drp 184 #[.pointer (some ⟨n + 3, 0, none⟩), .pointer (some ⟨n + 4, 0, none⟩)] (enters_of Tryz.func184 (by kernel_rfl) rfl) (fun i V => ∃ k sv, GG w n s (gS x i) V k sv (rS x z i)) (fun V h1 h2 h3 h4 => ⟨_, nl, g9.read h1 h4 h3 h2⟩) (fun i V ⟨k, sv, h⟩ => ⟨k, h.g.fr⟩) fun i V hi ⟨k, sv, h⟩ => by
        have hm := HM.out.pg _ (List.getElem_mem hi)
        have ho := HO.out.s _ (List.getElem_mem hi)
        refine (h.get3 HZ.out (p := x.sp[i]) ho.1 ⟨ho.2.1, by omega⟩ hm.2.2.2.1 (rS_step x z i hi) (by show (x.sp.take i).length ≤ 70000; rw [List.length_take]; have := HL.out; omega)).mono ?_
        rintro e V' ⟨he, k', sv', g⟩
        refine ⟨he, k', sv', ?_⟩
        have e2 : gS x (i + 1) = { gS x i with sp := (gS x i).sp ++ [x.sp[i]] } := by
          unfold gS
          rw [List.take_succ_eq_append_getElem hi]
        rw [e2]; exact g)
      clear g8 g9 HNb c7
      go_wp2_with fail
      refine HMc.out.mono ?_
      rintro e w10 ⟨rfl, k10, sv, g10⟩
      have hrt : rS x z x.sp.length = pL x.text.size 2 ++ (tl x.text ++ z) := by
        unfold rS
        rw [List.drop_length]; rfl
      have htx := HM.out.tx
      have HTx := Lib.hid (textV g10.g.fr.r HZ.out g10.g.kle (t := x.text) (by omega) (g10.g.drp.trans hrt))
      have HG10 := Lib.hid g10
      have c10 := g10.c0
      have d10 := g10.c1
      clear g10 hrt htx HMc b8 f8 c9 hb8
      go_wp2_with fail
      refine HTx.out.mono ?_
      rintro e w11 ⟨rfl, h11, m11, k11, d11⟩
      have g11 : GG w n s (gS x x.sp.length) w11 _ sv z := HG10.out.read ⟨h11, (m11.block _ (lt_of_block HG10.out.g.fr.h) HG10.out.g.fr.ne).trans HG10.out.g.fr.h⟩ k11 d11 m11
      have b11 := g11.g.box.cell 22 _ rfl
      have f11 := g11.g.box.thaw 22
      have g12 : GG w n s (gT x) (w11.setCell ⟨n + 4, 22, none⟩ (.string x.text)) _ sv z := g11.set 22 _ (by kernel_rfl) (by show x.sp = x.sp.take x.sp.length; rw [List.take_length])
      have HG12 := Lib.hid g12
      clear h11 m11 k11 d11 g11 g12 HG10 HTx c10 d10
      go_wp2_with fail
      clear b11 f11
      generalize w11.setCell ⟨n + 4, 22, none⟩ (.string x.text) = w12 at *
      have e12 := setCell_same (i := 1) (v := .bool false) HG12.out.g.fr.h rfl
      have E12 := Lib.hid e12
      have fr12 : ∀ i, w12.frozen? ⟨n + 2, i, none⟩ = false := fun i => by unfold World.frozen?; rw [HG12.out.g.fr.h]; simp
      have F12 := Lib.hid fr12
      clear e12 fr12
      have hne : ((0 : Int) != 0) = false := rfl
      refine B (fun V => V.cell? ⟨n + 3, 0, none⟩ = some (.pointer (some ⟨n + 2, 0, none⟩)) ∧ V.cell? ⟨n + 2, 1, none⟩ = some (.bool false) ∧ True) ⟨HG12.out.c0, HG12.out.c2, trivial⟩ fun wd hwd hS => ?_
      have HBd := Lib.hid (show Below w12.heap.size w12 wd by rw [hwd]; exact (Below.refl _ _).drew)
      have HE12 := Lib.hid (show wd.setCell ⟨n + 2, 1, none⟩ (.bool false) = wd by rw [hwd]; exact congrArg World.drew E12.out)
      have f12 : wd.frozen? ⟨n + 2, 1, none⟩ = false := by rw [hwd]; exact F12.out 1
      clear hwd E12 F12
      refine T 0 hS ?_
      refine T 1 hS ?_
      refine T 2 hS ?_
      refine T 3 hS ?_
      refine T 4 hS ?_
      refine T 5 hS ?_
      refine T 6 hS ?_
      refine T 7 hS ?_
      refine T 8 hS ?_
      refine T 9 hS ?_
      refine T 10 hS ?_
      have c2 := hS.2.1
      refine U 11 fun K hK => ?_
      go_simp
      rw [HE12.out]
      refine V hK hS ?_; clear hK K
      refine wpAnyH_done (by kernel_rfl) ?_ _
      clear hS c2 f12 HE12
      have hx := gT_arr HM.out.r0 nl nl sv
      have HW : Hid (∀ V, Below wd.heap.size wd V → FBox V (n + 4) x nl nl sv ∧ FrIn V x nl nl sv ∧ V.cell? ⟨n + 3, 0, none⟩ = some (.pointer (some ⟨n + 2, 0, none⟩)) ∧ V.cell? ⟨n + 2, 1, none⟩ = some (.bool false) ∧ FBox V n zeroFr nl nl nl ∧ Below n w V) := Lib.hid fun V hV => by
        have hb := below_th HBd.out hV
        have g := HG12.out.g.below hb
        have hbx := g.box
        unfold FBox at hbx
        rw [hx] at hbx
        refine ⟨hbx, ⟨⟨?_, ?_⟩, g.row⟩, g.c0, ?_, HG12.out.res.keep (Mod.of_below hb fun _ => False) id, HG12.out.bel.trans (hb.mono (by have := HG12.out.g.bb; omega))⟩
        · rw [HE.out.1]; exact SlV.nil _ _ _
        · rw [HE.out.2]; exact SlV.nil _ _ _
        · unfold World.cell?; rw [g.fr.h]; rfl
      have HOw : Hid (∀ V, Below wd.heap.size wd V → SlV V 159 4 sv x.sp.length (pgC x.sp) ∧ ∀ g, sv.ownBlock = some g → n + 5 ≤ g ∧ g < V.heap.size) := Lib.hid fun V hV => by
        have hb := below_th HBd.out hV
        have g := HG12.out.g.below hb
        exact ⟨g.row, g.own⟩
      obtain ⟨so, sc, rfl⟩ := (HOw.out wd (Below.refl _ _)).1.form
      clear hx HG12 HBd HN
      obtain ⟨x1, x2, x3, x4, x5, x6⟩ := HW.out wd (Below.refl _ _)
      have HRa := Lib.hid x1.range
      have HPt := Lib.hid (put x2 HO.out HM.out HL.out HE.out.1 HE.out.2)
      clear x1 x2 x3 x4 x5 x6
      have HSi := Lib.hid (fz_sizeL x nl nl (.slice so x.sp.length sc))
      go_wp2_with (refine wpList_load_mid rfl 49 _ rfl (n + 4) 0 rfl _ _ HRa.out Tryz.underlying49 rfl HSi.out ?_; rw [Array.toArray_toList])
      refine HPt.out.mono ?_
      rintro e w13 ⟨P, rfl, hP, hb13⟩
      obtain ⟨x1, x2, x3, x4, x5, x6⟩ := HW.out w13 hb13
      have HRb := Lib.hid x1.range
      have HCk := Lib.hid (check x2 HO.out HM.out (by have := HL.out; omega))
      have HB13 := Lib.hid hb13
      clear x1 x2 x5 x6 hb13 HRa HPt
      go_wp2_with (refine wpList_load_g rfl 49 _ rfl (n + 4) 0 rfl _ _ HRb.out Tryz.underlying49 rfl HSi.out ?_; rw [Array.toArray_toList])
      refine HCk.out.mono ?_
      rintro e w14 ⟨rfl, hb14⟩
      have HB14 := Lib.hid (below_th HB13.out hb14)
      have HP := Lib.hid hP
      clear hb14 hP HB13 HCk HRb x3 x4
      have HPost : Hid (∀ e W, Below n w W → ((z = [] ∧ ∃ sv, e = .returned (.tuple #[.agg (x.arr nl nl sv), .int .i64 0]) ∧ SlV W 159 4 sv x.sp.length (pgC x.sp) ∧ ∀ g, sv.ownBlock = some g → n ≤ g ∧ g < W.heap.size) ∨ (z ≠ [] ∧ e = .returned (.tuple #[.agg (zeroFr.arr nl nl nl), .int .i64 7]))) → PQ e W) := Lib.hid hPQ.out
      cases hzc : z with
      | nil =>
        have hps : P = s := tl_inj (by rw [HP.out, HS.out, hzc, List.append_nil])
        have hneq : (P.toList == s.toList) = true := by rw [hps]; exact beq_self_eq_true _
        obtain ⟨x1, x2, x3, x4, x5, x6⟩ := HW.out w14 HB14.out
        have HRc := Lib.hid x1.range
        have HTh := Lib.hid x5.there
        have HSt := Lib.hid (x5.sets x nl nl (.slice so x.sp.length sc))
        have HRow := Lib.hid (HOw.out w14 HB14.out)
        have HBel := Lib.hid x6
        clear x1 x2 x3 x4 x5 x6 hps HW HOw HB14
        go_wp2_with (first
          | (refine wpList_load_mid rfl 49 _ rfl (n + 4) 0 rfl _ _ HRc.out Tryz.underlying49 rfl HSi.out ?_; rw [Array.toArray_toList])
          | refine wpList_store_mid rfl 49 _ _ rfl n 0 (x.arr nl nl (.slice so x.sp.length sc)) rfl rfl HTh.out (fz_size _ _ _ _) (by kernel_rfl) ?_)
        obtain ⟨hV, hm⟩ := HSt.out
        generalize w14.setCells n 0 (x.arr nl nl (.slice so x.sp.length sc)).toList = V at *
        have hbV := Mod.below HBel.out hm (by rw [← HNn.out]; have := HBel.out.size; omega) fun i _ e => by omega
        have hend := HPost.out (.returned (.tuple #[.agg (x.arr nl nl (.slice so x.sp.length sc)), .int .i64 0])) V hbV (.inl ⟨hzc, _, rfl, HRow.out.1.keep fun g hg => hm.block g (HRow.out.2 g hg).2 (by have := (HRow.out.2 g hg).1; omega), fun g hg => ⟨by have := (HRow.out.2 g hg).1; omega, Nat.lt_of_lt_of_le (HRow.out.2 g hg).2 hm.size⟩⟩)
        have hres := hV.result
        have HEnd := Lib.hid hend
        clear hend hbV hm hV HPost HSt HRow HBel HRc HTh
        refine bodyPost_ret (v := .tuple #[.agg (x.arr nl nl (.slice so x.sp.length sc)), .int .i64 0]) (results_box Tryz.results76 rfl rfl hres) rfl ?_
        exact HEnd.out
      | cons z0 zs =>
        have hneq : (P.toList == s.toList) = false := by
          cases hq : (P.toList == s.toList) with
          | false => rfl
          | true =>
            exfalso
            have h1 : P = s := by
              have h := beq_iff_eq.1 hq
              rw [ByteArray.toList_eq, ByteArray.toList_eq] at h
              exact ByteArray.ext (Array.toList_inj.1 h)
            have h2 := congrArg List.length HS.out
            rw [← h1, HP.out, hzc] at h2
            simp at h2
        obtain ⟨x1, x2, x3, x4, x5, x6⟩ := HW.out w14 HB14.out
        have HTh := Lib.hid x5.there
        have HSt := Lib.hid (x5.sets zeroFr nl nl nl)
        have HBel := Lib.hid x6
        clear x1 x2 x3 x4 x5 x6 HW HOw HB14
        go_wp2_with (refine wpList_store_mid rfl 49 _ _ rfl n 0 (zeroFr.arr nl nl nl) rfl rfl HTh.out (fz_size _ _ _ _) (by kernel_rfl) ?_)
        obtain ⟨hV, hm⟩ := HSt.out
        generalize w14.setCells n 0 (zeroFr.arr nl nl nl).toList = V at *
        have hbV := Mod.below HBel.out hm (by rw [← HNn.out]; have := HBel.out.size; omega) fun i _ e => by omega
        have hend := HPost.out (.returned (.tuple #[.agg (zeroFr.arr nl nl nl), .int .i64 7])) V hbV (.inr ⟨by rw [hzc]; simp, rfl⟩)
        have hres := hV.result
        have HEnd := Lib.hid hend
        clear hend hbV hm hV HPost HSt HBel HTh
        refine bodyPost_ret (v := .tuple #[.agg (zeroFr.arr nl nl nl), .int .i64 7]) (results_box Tryz.results76 rfl rfl hres) rfl ?_
        exact HEnd.out
end Go.Proofs.YtgdodbcpnmfnnaaGreat.Fz
namespace Go.Proofs.YtgdodbcpnmfnnaaGreat.Fz
open Go.RowKit Word L22 In
set_option linter.unusedVariables false
set_option linter.unusedSimpArgs false
theorem nest42 (w : World) (o : Obj) : (((w.alloc (.cells pm42 5)).alloc (.cells ca42 161)).alloc o).heap[w.heap.size]? = some (.cells pm42 5 (0, 0)) ∧ (((w.alloc (.cells pm42 5)).alloc (.cells ca42 161)).alloc o).heap[w.heap.size + 1]? = some (.cells ca42 161 (0, 0)) ∧ Below w.heap.size w (((w.alloc (.cells pm42 5)).alloc (.cells ca42 161)).alloc o) := by
  have a1 := heap_alloc_new w (.cells pm42 5)
  have s1 : (w.alloc (.cells pm42 5)).heap.size = w.heap.size + 1 := by simp
  have b1 := (Below.refl w.heap.size w).alloc (Nat.le_refl _) (.cells pm42 5)
  generalize w.alloc (.cells pm42 5) = w1 at *
  have a2 := heap_alloc_new w1 (.cells ca42 161)
  have b2 := (Below.refl w1.heap.size w1).alloc (Nat.le_refl _) (.cells ca42 161)
  have s2 : (w1.alloc (.cells ca42 161)).heap.size = w.heap.size + 2 := by simp [s1]
  generalize w1.alloc (.cells ca42 161) = w2 at *
  have b3 := (Below.refl w2.heap.size w2).alloc (Nat.le_refl _) o
  rw [s1] at a2
  refine ⟨?_, ?_, (b1.trans (b2.mono (by omega))).trans (b3.mono (by omega))⟩
  · rw [b3.block _ (by omega), b2.block _ (by omega)]; exact a1
  · rw [b3.block _ (by omega)]; exact a2
set_option maxRecDepth 100000 in
set_option maxHeartbeats 8000000 in
theorem alive42 (w : World) : Calls Tryz.prog 20 #[] w fun r w' => r = .returned (.bool true) ∧ Below w.heap.size w w' := by
  generalize hPQ : (fun (r : Ending) (w' : World) => r = .returned (.bool true) ∧ Below w.heap.size w w') = PQ
  have HPQ : Hid (∀ V, Below w.heap.size w V → PQ (.returned (.bool true)) V) := Lib.hid fun V h => by rw [← hPQ]; exact ⟨rfl, h⟩
  clear hPQ
  go_enter Tryz.func20, Tryz.ntmps20
  go_wp2_with fail
  refine (fun (F : ∀ V, V.heap[w.heap.size]? = some (.cells pm42 5 (0, 0)) → V.heap[w.heap.size + 1]? = some (.cells ca42 161 (0, 0)) → Below w.heap.size w V → Calls Tryz.prog _ #[.agg (wd42 w.heap.size (w.heap.size + 1)).cells] V _) => F _ (nest42 w _).1 (nest42 w _).2.1 (nest42 w _).2.2) ?_
  intro w3 h0 h1 hb3
  have HB3 := Lib.hid hb3
  have hpre := st42_pre h0 h1
  have hok : ∀ V, Below w3.heap.size w3 V → (wd42 w.heap.size (w.heap.size + 1)).x.ok V := fun V hV => st42_ok (st42_pre ((hV.block _ (lt_of_block h0)).trans h0) ((hV.block _ (lt_of_block h1)).trans h1))
  have HMd := Lib.hid (made w3 _ (wd42_pre hpre) hok (show (0 : Nat) ≤ 40 by decide) (show (0 : Nat) ≤ 40 by decide))
  clear hb3 h0 h1 hpre hok
  refine HMd.out.mono ?_
  rintro r w4 (⟨g1, _⟩ | ⟨_, a, e, E, b, f, rfl, hke, hlk⟩)
  · have := n42
    simp only [Prod.mk.injEq] at this
    rw [show (wd42 w.heap.size (w.heap.size + 1)).h.p = 40 from rfl, show (wd42 w.heap.size (w.heap.size + 1)).h.l = [] from rfl, this.1] at g1
    cases g1
  have hn := n42
  simp only [Prod.mk.injEq] at hn
  obtain ⟨_, n1, n2, n3, n4, n5⟩ := hn
  rw [asked42] at hke
  have hlk : En.Like E en42 := hlk
  have HKe := Lib.hid hke
  have HLk := Lib.hid hlk
  have HRn := Lib.hid (run1 hke.en (hlk.kind.trans n1) (by rw [hlk.stop, n5]; decide) (some ⟨a.kb, 0, none⟩))
  have HN := Lib.hid (And.intro n2 (And.intro n3 n4))
  clear hke hlk n1 n2 n3 n4 n5 HMd
  go_wp2_with fail
  refine HRn.out.mono ?_
  rintro r w5 ⟨rfl, hs5⟩
  have hnum : E.step.num = 1 := HLk.out.step.num.trans HN.out.2.1
  have hxe : frOf m42n E.step = x42 := frOf_like HLk.out.step m42n
  have hall := And.intro may42 (And.intro sp42 (And.intro v42 fun A => t42 A))
  have hm42 : x42.m = m42n := rfl
  generalize x42 = x at hall hxe hm42
  have hke5 := HKe.out.right hs5 (hnum.trans (HLk.out.num.trans HN.out.1).symm)
  have htk := takeF (G := ⟨m42n, 8, 0⟩) hke5.ke (by rw [hnum]; decide) (HLk.out.step.kind.trans HN.out.2.2) (by rw [hnum]; rfl) ⟨(by decide : (0 : Nat) ≤ 2000000), (by decide : (0 : Nat) ≤ 2000000)⟩ (frOf_ok hke5.en ⟨(by decide : (0 : Int) ≤ 0), (by decide : (0 : Int) ≤ 4294967295), fun x hx => (nomatch hx), fun x hx => (nomatch hx)⟩) (by show (frOf m42n E.step).may; rw [hxe]; exact hall.1)
  have HTk := Lib.hid htk
  have HK5 := Lib.hid hke5
  have HX := Lib.hid hxe
  have hxo : x.ok := by rw [← hxe]; exact frOf_ok hke5.en ⟨(by decide : (0 : Int) ≤ 0), (by decide : (0 : Int) ≤ 4294967295), fun x hx => (nomatch hx), fun x hx => (nomatch hx)⟩
  have hx65 : x.sp.length = 1 := by obtain ⟨t, _, ht⟩ := hall.2.1; rw [ht]; rfl
  have hxn : ∀ p, p ∈ x.sp → p.own = false := by
    obtain ⟨t, _, ht⟩ := hall.2.1
    rw [ht]
    intro p hp
    simp only [List.mem_singleton] at hp
    subst hp; rfl
  have hxv := hall.2.2.1
  simp only [Prod.mk.injEq] at hxv
  have HX2 := Lib.hid (And.intro hall.1 (And.intro hxo (And.intro hx65 (And.intro hxn (And.intro hm42 (And.intro hxv.2.2.2 hall.2.2.2))))))
  clear hxo hx65 hxn hxv hall hm42 hnum hxe hke5 htk hs5 HRn HKe HLk HN
  go_wp2_with fail
  refine HTk.out.mono ?_
  rintro r w6 ⟨ev, pv, sv, rfl, hin, how, hb6⟩
  have hin : FrIn w6 (frOf m42n E.step) ev pv sv := hin
  rw [show (frOf (⟨m42n, 8, 0⟩ : Gr).m E.step) = x from HX.out]
  rw [HX.out] at hin
  obtain ⟨eo, ec, rfl⟩ := hin.m.e.form
  obtain ⟨po, pc, rfl⟩ := hin.m.p.form
  obtain ⟨so, sc, rfl⟩ := hin.s.form
  have HI6 := Lib.hid hin
  have HB6 := Lib.hid hb6
  have HO6 := Lib.hid how
  clear hin how hb6 HTk HX
  have hz : FBox (w6.alloc (.cells (zeroFr.arr nl nl nl) 49)) w6.heap.size zeroFr nl nl nl := heap_alloc_new w6 _
  have HTh := Lib.hid hz.there
  have HSt := Lib.hid (hz.sets x (.slice eo x.m.ext.length ec) (.slice po x.m.ports.length pc) (.slice so x.sp.length sc))
  clear hz
  dsimp only
  iterate 13 go_step
  refine wpList_store_mid rfl 49 (.tmp 6) (.tmp 41) rfl w6.heap.size 0 (x.arr (.slice eo x.m.ext.length ec) (.slice po x.m.ports.length pc) (.slice so x.sp.length sc)) rfl rfl HTh.out (fz_size _ _ _ _) (by kernel_rfl) ?_
  refine (fun (F : ∀ V, FBox V w6.heap.size x (.slice eo x.m.ext.length ec) (.slice po x.m.ports.length pc) (.slice so x.sp.length sc) → Mod (fun k => k = w6.heap.size) (w6.alloc (.cells (zeroFr.arr nl nl nl) 49)) V → wpList Tryz.prog _ _ _ _ V) => F _ HSt.out.1 HSt.out.2) ?_
  intro w7 hv7 hm7
  have hb7 : Below w6.heap.size w6 w7 := Mod.below ((Below.refl w6.heap.size w6).alloc (Nat.le_refl _) _) hm7 (by simp) fun i _ e => by omega
  have HB7 := Lib.hid hb7
  have HV7 := Lib.hid hv7
  have HI7 := Lib.hid (HI6.out.below hb7)
  obtain ⟨xb, hxb⟩ : ∃ y, w6.heap.size = y := ⟨_, rfl⟩
  rw [hxb] at HV7 ⊢
  obtain ⟨xmay, xok, x1, xno, xm, xlen, xth⟩ := HX2.out
  have hpu := put HI7.out xok xmay (by omega) (by rw [xm]; rfl) (by rw [xm]; rfl)
  have HPu := Lib.hid hpu
  have HRa := Lib.hid HV7.out.range
  have HSi := Lib.hid (fz_sizeL x (.slice eo x.m.ext.length ec) (.slice po x.m.ports.length pc) (.slice so x.sp.length sc))
  clear hv7 hm7 hb7 hpu HSt HTh hxb
  clear xmay xok x1 xno xm xlen xth
  go_wp2_with (refine wpList_load_mid rfl 49 _ rfl xb 0 rfl _ _ HRa.out Tryz.underlying49 rfl HSi.out ?_; rw [Array.toArray_toList])
  refine HPu.out.mono ?_
  rintro r w8 ⟨s, rfl, hs, hb8⟩
  have hss : s.size = 341 := by rw [← tl_len, hs]; exact HX2.out.2.2.2.2.2.1
  have HS := Lib.hid (And.intro hs hss)
  have hgt := get (w := w8) HX2.out.2.1 HX2.out.1 (by have := HX2.out.2.2.1; omega) (by rw [HX2.out.2.2.2.2.1]; rfl) (by rw [HX2.out.2.2.2.2.1]; rfl) (s := s) (z := []) (by rw [List.append_nil]; exact hs) (by rw [hss]; decide)
  have HGt := Lib.hid hgt
  have HB8 := Lib.hid hb8
  clear hs hss hgt hb8 HPu HRa HSi
  go_wp2_with fail
  refine HGt.out.mono ?_
  rintro r w9 ⟨hb9, (⟨_, yv, rfl, hyv, hyo⟩ | ⟨hz, _⟩)⟩
  case inr => exact absurd rfl hz
  obtain ⟨yo, yc, rfl⟩ := hyv.form
  have HB9 := Lib.hid hb9
  have HY := Lib.hid (And.intro hyv hyo)
  clear hb9 hyv hyo HGt
  have hz : FBox (w9.alloc (.cells (zeroFr.arr nl nl nl) 49)) w9.heap.size zeroFr nl nl nl := heap_alloc_new w9 _
  have HTh := Lib.hid hz.there
  have HSt := Lib.hid (hz.sets x nl nl (.slice yo x.sp.length yc))
  clear hz
  dsimp only
  iterate 13 go_step
  refine wpList_store_mid rfl 49 (.tmp 10) (.tmp 51) rfl w9.heap.size 0 (x.arr nl nl (.slice yo x.sp.length yc)) rfl rfl HTh.out (fz_size _ _ _ _) (by kernel_rfl) ?_
  refine (fun (F : ∀ V, FBox V w9.heap.size x nl nl (.slice yo x.sp.length yc) → Mod (fun k => k = w9.heap.size) (w9.alloc (.cells (zeroFr.arr nl nl nl) 49)) V → wpList Tryz.prog _ _ _ _ V) => F _ HSt.out.1 HSt.out.2) ?_
  intro w10 hv10 hm10
  have hb10 : Below w9.heap.size w9 w10 := Mod.below ((Below.refl w9.heap.size w9).alloc (Nat.le_refl _) _) hm10 (by simp) fun i _ e => by omega
  obtain ⟨yb, hyb⟩ : ∃ y, w9.heap.size = y := ⟨_, rfl⟩
  rw [hyb] at hv10 ⊢
  have hb510 : Below w5.heap.size w5 w10 := below_th HB6.out (below_th HB7.out (below_th HB8.out (below_th HB9.out hb10)))
  have hkn10 := HK5.out.kn.below hb510
  have hyin : FrIn w10 x nl nl (.slice yo x.sp.length yc) := ⟨⟨by rw [HX2.out.2.2.2.2.1]; exact SlV.nil _ _ _, by rw [HX2.out.2.2.2.2.1]; exact SlV.nil _ _ _⟩, HY.out.1.below hb10⟩
  have hz58 : w5.heap.size ≤ w8.heap.size := Nat.le_trans HB6.out.size (Nat.le_trans HB7.out.size HB8.out.size)
  have hz59 : w5.heap.size ≤ yb := by rw [← hyb]; exact Nat.le_trans hz58 HB9.out.size
  have hty : a.tag yb = 0 ∧ ∀ g, (Value.slice yo x.sp.length yc).ownBlock = some g → a.tag g = 0 ∧ g < w10.heap.size := by
    refine ⟨Decidable.byContradiction fun q => absurd (HK5.out.kn.lt _ q) (by omega), fun g hg => ?_⟩
    have := HY.out.2 g hg
    have := hb10.size
    exact ⟨Decidable.byContradiction fun q => absurd (HK5.out.kn.lt _ q) (by omega), by omega⟩
  have hthw := thaw hkn10 (by decide) (by decide) hyin HX2.out.2.1 HX2.out.1 (by have := HX2.out.2.2.1; omega) HX2.out.2.2.2.1 2
  have HTw := Lib.hid hthw
  have HV10 := Lib.hid hv10
  have HTy := Lib.hid hty
  have HYi := Lib.hid hyin
  have HB10 := Lib.hid (Below.trans (below_th HB3.out HK5.out.bel) (hb510.mono (Nat.le_trans HB3.out.size HK5.out.bel.size)))
  have HZ := Lib.hid (And.intro (Nat.le_trans HB3.out.size HK5.out.bel.size) (And.intro hz58 hb510.size))
  have HRa := Lib.hid hv10.range
  have HSi := Lib.hid (fz_sizeL x nl nl (.slice yo x.sp.length yc))
  clear hv10 hm10 hb10 hyb hb510 hkn10 hyin hz58 hz59 hty hthw HSt HTh
  go_wp2_with (refine wpList_load_mid rfl 49 _ rfl yb 0 rfl _ _ HRa.out Tryz.underlying49 rfl HSi.out ?_; rw [Array.toArray_toList])
  refine HTw.out.mono ?_
  obtain ⟨xmay, xok, x1, xno, xm, xlen, xth⟩ := HX2.out
  have hgg := g42
  simp only [Prod.mk.injEq] at hgg
  have hg1 : Ca.grantE k42.hp k42.hx k42.g 2 x.m x.sp.length = 0 := by rw [xm, x1]; exact hgg.2.1
  have hg2 : Ca.grantE k42b.hp k42b.hx k42b.g 2 x.m x.sp.length = 9 := by rw [xm, x1]; exact hgg.2.2
  rintro r w12 (⟨h1, _⟩ | ⟨_, a', e2, A, rfl, hks, he2, _, hef⟩)
  · exact absurd hg1 h1
  have hK2 : ({ k42 with g := Gp.upd k42.g 2 (some ⟨x.m, x.sp.length, 0⟩) } : Kn) = k42b := by rw [xm, x1]; rfl
  rw [hK2] at hks
  have hxa := xth A
  simp only [Prod.mk.injEq] at hxa
  obtain ⟨ha1, ha2, ha3⟩ := hxa
  have hty := HTy.out
  have hv12 : FBox w12 yb x nl nl (.slice yo x.sp.length yc) := HV10.out.keep hks.mod fun q => q.1 hty.1
  have hyin : FrIn w12 x nl nl (.slice yo x.sp.length yc) := ⟨⟨by rw [xm]; exact SlV.nil _ _ _, by rw [xm]; exact SlV.nil _ _ _⟩, HYi.out.s.keep fun g hg => hks.mod.block g (hty.2 g hg).2 fun q => q.1 (hty.2 g hg).1⟩
  have hthw := thaw hks.k (by decide) (by decide) hyin xok xmay (by omega) xno 2
  rw [hks.same.1] at hthw
  have hb12 : Below w.heap.size w w12 := Mod.below HB10.out hks.mod HB10.out.size fun k _ q => by
    have h1 := HK5.out.k0 k q.1
    have h2 := HB3.out.size
    omega
  have HTw2 := Lib.hid hthw
  have HE2 := Lib.hid he2
  have HA := Lib.hid (And.intro ha1 (And.intro ha2 ha3))
  have HB12 := Lib.hid hb12
  have HRb := Lib.hid hv12.range
  have HG2 := Lib.hid hg2
  clear hgg hg1 hg2 hks he2 hef hK2 ha1 ha2 ha3 hty hv12 hyin hthw hb12 xmay xok x1 xno xm xlen xth HTw HV10 HTy HYi HRa
  go_wp2_with fail
  refine (Ev.cpu HE2.out).mono ?_
  rintro r v1 ⟨rfl, rfl⟩
  go_wp2_with (refine wpList_load_mid rfl 49 _ rfl yb 0 rfl _ _ HRb.out Tryz.underlying49 rfl HSi.out ?_; rw [Array.toArray_toList])
  refine HTw2.out.mono ?_
  rintro r w13 (⟨_, rfl, hb13⟩ | ⟨h1, _⟩)
  case inr => exact absurd (HG2.out.symm.trans h1) (by decide)
  rw [HG2.out]
  have HE13 := Lib.hid (HE2.out.below hb13)
  have HB13 := Lib.hid (HB12.out.trans (hb13.mono HB12.out.size))
  have hss := HS.out.2
  have hov : ¬ (9223372036854775807 < s.size + 1) := by omega
  have hgt := get (w := w13) HX2.out.2.1 HX2.out.1 (by have := HX2.out.2.2.1; omega) (by rw [HX2.out.2.2.2.2.1]; rfl) (by rw [HX2.out.2.2.2.2.1]; rfl) (s := s ++ ⟨#[120]⟩) (z := [120]) (by rw [tl_app, HS.out.1, show tl ⟨#[120]⟩ = [120] from rfl]) (by rw [ByteArray.size_append, hss, show (⟨#[120]⟩ : ByteArray).size = 1 from rfl]; decide)
  have HGt := Lib.hid hgt
  clear hb13 hgt HTw2 HE2 HB12 HRb HG2
  go_wp2_with fail
  refine HGt.out.mono ?_
  rintro r w14 ⟨hb14, (⟨hz, _⟩ | ⟨_, rfl⟩)⟩
  case inl => cases hz
  have hz : FBox (w14.alloc (.cells (zeroFr.arr nl nl nl) 49)) w14.heap.size zeroFr nl nl nl := heap_alloc_new w14 _
  have HTh := Lib.hid hz.there
  have HSt := Lib.hid (hz.sets zeroFr nl nl nl)
  have HE14 := Lib.hid (HE13.out.below hb14)
  have HB14 := Lib.hid (HB13.out.trans (hb14.mono HB13.out.size))
  have hl341 : ((s.size : Int) == 341) = true := by rw [hss]; rfl
  clear hz hb14 HGt HE13 HB13 hss hov
  dsimp only
  iterate 13 go_step
  refine wpList_store_mid rfl 49 (.tmp 16) (.tmp 92) rfl w14.heap.size 0 (zeroFr.arr nl nl nl) rfl rfl HTh.out (fz_size _ _ _ _) (by kernel_rfl) ?_
  refine (fun (F : ∀ V, Mod (fun k => k = w14.heap.size) (w14.alloc (.cells (zeroFr.arr nl nl nl) 49)) V → wpList Tryz.prog _ _ _ _ V) => F _ HSt.out.2) ?_
  intro w15 hm15
  have hb15 : Below w14.heap.size w14 w15 := Mod.below ((Below.refl w14.heap.size w14).alloc (Nat.le_refl _) _) hm15 (by simp) fun i _ e => by omega
  have he15 := HE14.out.below hb15
  have HEnd := Lib.hid (HPQ.out w15 (HB14.out.trans (hb15.mono HB14.out.size)))
  have har := Ev.arg he15 1 (by decide) (by decide)
  have hcp := Ev.cpu he15
  have hpc := Cp.pc_ok he15.cp
  have hnm := Ev.num he15
  rw [HA.out.1] at har
  rw [HA.out.2.1] at hpc
  rw [HA.out.2.2] at hnm
  have HAr := Lib.hid har
  have HCp := Lib.hid hcp
  have HPc := Lib.hid hpc
  have HNm := Lib.hid hnm
  clear har hcp hpc hnm he15 hb15 hm15 HE14 HB14 HSt HTh HA HPQ
  go_wp2_with fail
  refine HAr.out.mono ?_
  rintro r v1 ⟨rfl, rfl⟩
  go_wp2_with fail
  refine HCp.out.mono ?_
  rintro r v1 ⟨rfl, rfl⟩
  go_wp2_with fail
  refine HPc.out.mono ?_
  rintro r v1 ⟨rfl, rfl⟩
  go_wp2_with fail
  refine HNm.out.mono ?_
  rintro r v1 ⟨rfl, rfl⟩
  go_wp2
  first | exact HEnd.out | (go_ret; exact HEnd.out)
end Go.Proofs.YtgdodbcpnmfnnaaGreat.Fz
