/- GraG, R19, R19B, R19C, RwIn, R19D, CopG in one text. -/
import Derived.Test.YtgdodbcpnmfnnaaGreatFnGrantG
import Derived.Test.YtgdodbcpnmfnnaaGreatFnEnvN
import Derived.Test.YtgdodbcpnmfnnaaGreatFnKnG
namespace Go.Proofs.YtgdodbcpnmfnnaaGreat
open Go.RowKit
set_option linter.unusedVariables false
set_option linter.unusedSimpArgs false
def CAt.put (a : CAt) (n : Int) (gb : Nat) (ev pv : Value) : CAt := { a with gb := fun k => if k = n then gb else a.gb k, ev := fun k => if k = n then ev else a.ev k, pv := fun k => if k = n then pv else a.pv k }
theorem CAt.put_at (a : CAt) (n : Int) (gb : Nat) (ev pv : Value) : (a.put n gb ev pv).gb n = gb ∧ (a.put n gb ev pv).ev n = ev ∧ (a.put n gb ev pv).pv n = pv := ⟨if_pos rfl, if_pos rfl, if_pos rfl⟩
theorem CAt.put_ne (a : CAt) {n k : Int} (gb : Nat) (ev pv : Value) (h : k ≠ n) : (a.put n gb ev pv).gb k = a.gb k ∧ (a.put n gb ev pv).ev k = a.ev k ∧ (a.put n gb ev pv).pv k = a.pv k := ⟨if_neg h, if_neg h, if_neg h⟩
theorem SlV.map_keep {w w' : World} {mb n : Nat} {D : DataW Unit} {kt : TypeId} {el : Value → Option (DataW Unit × List MemPlace)} (ho : w.ownsMap Tryz.prog kt el mb n D) (hm : Mod (fun k => k = mb) w w') {ty : TypeId} {s m : Nat} {v : Value} {xs : List Value} (h : SlV w ty s v m xs) : SlV w' ty s v m xs := by
  refine ⟨h.1, ?_⟩
  rcases h.2 with g | ⟨g, off, cap, cur, rfl, hgg, rest⟩
  · exact .inl g
  · refine .inr ⟨g, off, cap, cur, rfl, (hm.block _ (lt_of_block hgg) (fun e => ?_)).trans hgg, rest⟩
    obtain ⟨es, clock, hb, _⟩ := ho
    rw [← e, hgg] at hb
    cases hb
theorem Cps.head_ne {w : World} {a : CAt} {hp : Int} {G : Int → Option Gr} (h : Cps w a hp G) : a.cb ≠ a.mb ∧ ∀ n, (G n).isSome = true → a.gb n ≠ a.mb := by
  obtain ⟨D, m, ⟨es, clock, hb, _⟩, _⟩ := h.map
  refine ⟨fun e => ?_, fun n hn e => ?_⟩
  · rw [← e, h.head] at hb
    cases hb
  · obtain ⟨g, hg⟩ := Option.isSome_iff_exists.1 hn
    have := (h.grant n g hg).1
    rw [e, hb] at this
    cases this
theorem Cps.insert {w : World} {a : CAt} {hp : Int} {G : Int → Option Gr} (h : Cps w a hp G) {n : Int} (n1 : 1 ≤ n) (n8 : n ≤ 8) (hn : G n = none) {gb : Nat} {ev pv : Value} {g : Gr} (hblk : w.heap[gb]? = some (.cells (grC g ev pv) 217 (0, 0))) (hm : MnAt w ev pv g.m) (hok : g.ok) (h1 : gb ≠ a.mb) (hgn : ∀ k, (G k).isSome = true → a.gb k ≠ gb) (hft : Gp.sum G + (g.m.pages + g.pg) ≤ hp) :
    ∃ w', (Instr.mapUpdate 212 (.map (some a.mb)) (.int .i64 n) (.pointer (some ⟨gb, 0, none⟩))).run Tryz.prog w = .ok () w' ∧ Cps w' (a.put n gb ev pv) hp (Gp.upd G n (some g)) ∧ Mod (fun k => k = a.mb) w w' := by
  obtain ⟨hcm, hgm⟩ := h.head_ne
  obtain ⟨D, d, ho, hv, hs⟩ := h.map
  have ht := own_tight ho
  have K := Maps.int_keyed (P := Tryz.prog) Tryz.underlying3
  have hk := Maps.keyOf_int_mk (P := Tryz.prog) Tryz.underlying3 (I64.wf (n := n) ⟨by omega, by omega⟩)
  have hcb : Gp.cnt G ≤ 8 := by
    have : Gp.cnt G ≤ Gp.sum8 fun _ => 1 := Gp.sum8_le fun k => by unfold Gp.one; split <;> omega
    exact this
  obtain ⟨w', hrun, how, htu⟩ := ht.store K Tryz.underlying212 (by unfold maxLen; omega) (val := .pointer (some ⟨gb, 0, none⟩)) (d := .lit (.int .i64 gb)) (ps := []) hk rfl
  have hg := htu.grown
  have hne : ∀ k, k < w.heap.size → k ≠ a.mb → w'.heap[k]? = w.heap[k]? := fun k hk hkm => hg.block k hk (by simpa using hkm)
  have hmod : Mod (fun k => k = a.mb) w w' := ⟨hg.os, hg.tape, hg.output, hg.size, fun k hk hkm => hne k hk hkm⟩
  have hsm : ∀ k, (Gp.upd G n (some g) k).isSome = true ↔ k = n ∨ (G k).isSome = true := fun k => by
    unfold Gp.upd
    split
    · rename_i e; simp [e]
    · rename_i e; simp [e]
  refine ⟨w', hrun, ⟨(hne a.cb (h.lt (.inl rfl)) hcm).trans h.head, ⟨_, _, how, fun x zd => ?_, ?_⟩, fun m g' hg' => ?_, fun m => ?_, fun m hm' => ?_, fun m k q1 q2 e => ?_, ?_⟩, hmod⟩
  · by_cases e : x = n
    · subst e
      rw [if_pos ((hsm x).2 (.inl rfl)), Maps.atKey_put_same ht.isMap (K.key hk), (a.put_at x gb ev pv).1]
    · rw [Maps.atKey_put_other (by intro g; simp at g; exact e g), hv, (a.put_ne gb ev pv e).1, Gp.upd_ne _ _ e]
  · rw [Maps.size_put (ht.tidy K)]
    have : Maps.has D (.int .i64 n) = false := Maps.has_false_of_atKey fun z => by rw [hv, if_neg (by rw [hn]; simp)]
    rw [this, Gp.cnt_put n1 n8, ← hs, hn]
    simp [Gp.one]
  · by_cases e : m = n
    · subst e
      rw [Gp.upd_at] at hg'
      cases hg'
      rw [(a.put_at m gb ev pv).1, (a.put_at m gb ev pv).2.1, (a.put_at m gb ev pv).2.2]
      exact ⟨(hne gb (lt_of_block hblk) h1).trans hblk, hm.e.map_keep ho hmod, hm.p.map_keep ho hmod⟩
    · rw [Gp.upd_ne _ _ e] at hg'
      obtain ⟨p1, p2⟩ := h.grant m g' hg'
      rw [(a.put_ne gb ev pv e).1, (a.put_ne gb ev pv e).2.1, (a.put_ne gb ev pv e).2.2]
      exact ⟨(hne _ (lt_of_block p1) (hgm m (by rw [hg']; rfl))).trans p1, p2.e.map_keep ho hmod, p2.p.map_keep ho hmod⟩
  · by_cases e : m = n
    · subst e
      rw [Gp.upd_at]
      intro g' hg'
      cases hg'
      exact hok
    · rw [Gp.upd_ne _ _ e]
      exact h.ok m
  · rcases (hsm m).1 hm' with rfl | q
    · exact ⟨n1, n8⟩
    · exact h.dom m q
  · by_cases e1 : m = n
    · by_cases e2 : k = n
      · rw [e1, e2]
      · rw [e1, (a.put_at n gb ev pv).1, (a.put_ne gb ev pv e2).1] at e
        exact absurd e.symm (hgn k (((hsm k).1 q2).resolve_left e2))
    · by_cases e2 : k = n
      · rw [e2, (a.put_at n gb ev pv).1, (a.put_ne gb ev pv e1).1] at e
        exact absurd e (hgn m (((hsm m).1 q1).resolve_left e1))
      · rw [(a.put_ne gb ev pv e1).1, (a.put_ne gb ev pv e2).1] at e
        exact h.inj m k (((hsm m).1 q1).resolve_left e1) (((hsm k).1 q2).resolve_left e2) e
  · rw [Gp.sum_put n1 n8, hn]
    show Gp.sum G + (g.m.pages + g.pg - 0) ≤ hp
    omega
namespace Ca
set_option maxRecDepth 100000 in
set_option maxHeartbeats 8000000 in
theorem all {w : World} {a : CAt} {m : Mn} {ev pv : Value} {pb : Nat} (r0 r1 r2 r3 : Int)
    (h0 : ∀ V, Below w.heap.size w V → Calls Tryz.prog 263 #[.pointer (some ⟨a.cb, 0, none⟩), .agg (m.cells ev pv)] V fun e w' => e = .returned (.int .i64 r0) ∧ Below V.heap.size V w')
    (h1 : ∀ V, Below w.heap.size w V → Calls Tryz.prog 264 #[.pointer (some ⟨a.cb, 0, none⟩), .agg (m.cells ev pv)] V fun e w' => e = .returned (.int .i64 r1) ∧ Below V.heap.size V w')
    (h2 : ∀ V, Below w.heap.size w V → Calls Tryz.prog 265 #[.pointer (some ⟨a.cb, 0, none⟩), .agg (m.cells ev pv)] V fun e w' => e = .returned (.int .i64 r2) ∧ Below V.heap.size V w')
    (h3 : ∀ V, Below w.heap.size w V → Calls Tryz.prog 190 #[.pointer (some ⟨a.cb, 0, none⟩), .agg (m.cells ev pv), .pointer (some ⟨pb, 0, none⟩)] V fun e w' => e = .returned (.int .i64 r3) ∧ Below V.heap.size V w') :
    Calls Tryz.prog 191 #[.pointer (some ⟨a.cb, 0, none⟩), .agg (m.cells ev pv), .func (.func 190) #[] #[.pointer (some ⟨pb, 0, none⟩)]] w fun e w' => e = .returned (.int .i64 (firstE [r0, r1, r2, r3])) ∧ Below w.heap.size w w' := by
  have HE := Lib.hid fun (V : World) (lb : Nat) hb hf => each (w := V) (a := a) (m := m) (ev := ev) (pv := pv) (lb := lb) (pb := pb) r0 r1 r2 r3 hf (fun U hU => h0 U (below_th hb hU)) (fun U hU => h1 U (below_th hb hU)) (fun U hU => h2 U (below_th hb hU)) (fun U hU => h3 U (below_th hb hU))
  have hb : Below w.heap.size w (w.alloc (.cells (m.cells ev pv) 45)) := (Below.refl _ _).alloc (Nat.le_refl _) _
  have hblk := heap_alloc_new w (.cells (m.cells ev pv) 45)
  obtain ⟨c0, c1, c2, c3, _⟩ := man_cells hblk
  have HB := Lib.hid hb
  unfold Mn.cells at *
  clear hb hblk h0 h1 h2 h3
  go_enter Tryz.func191, Tryz.ntmps191
  go_wp2_with fail
  refine (HE.out _ _ (HB.out.alloc HB.out.size _) (by
    have h := heap_alloc_new (w.alloc (.cells #[.int .u32 m.pages, ev, pv, .bool m.con] 45)) (.cells #[.func (.func 263) #[] #[], .func (.func 264) #[] #[], .func (.func 265) #[] #[], .func (.func 190) #[] #[.pointer (some ⟨pb, 0, none⟩)]] 412)
    rw [show (w.alloc (.cells #[.int .u32 m.pages, ev, pv, .bool m.con] 45)).heap.size = w.heap.size + 1 by simp] at h
    exact h)).mono ?_
  rintro e w2 ⟨rfl, hb2⟩
  have HB2 := Lib.hid (below_th (HB.out.alloc HB.out.size _) hb2)
  clear c0 c1 c2 c3 hb2
  go_wp2
  go_ret
  exact ⟨rfl, HB2.out⟩
end Ca
theorem rises_at {l : List (Int × Int)} (h : Gp.risesB (fun a b : Int × Int => decide (a.1 < b.1)) l = true) (h0 : ∀ x, x ∈ l → 0 ≤ x.1) : ∀ (k : Nat) (x : Int × Int), l[k]? = some x → (k : Int) ≤ x.1
  | 0, x, hx => by have := h0 x (List.mem_of_getElem? hx); omega
  | k + 1, x, hx => by
    have hk : k < l.length := by have := (List.getElem?_eq_some_iff.1 hx).1; omega
    have h1 := rises_at h h0 k l[k] (List.getElem?_eq_getElem hk)
    have h2 := (Gp.risesB_iff _ l).1 h k l[k] x (List.getElem?_eq_getElem hk) hx
    simp at h2
    omega
theorem slv_at {w : World} {e : TypeId} {s n oc : Nat} {o : Option Addr} {xs : List Value} (h : SlV w e s (.slice o n oc) n xs) : Cl.At w o xs := fun j u hu => by
  have hj := (List.getElem?_eq_some_iff.1 hu).1
  have hl := h.1
  rcases h.2 with ⟨h0, _⟩ | ⟨g, off, cap, cur, hv, _⟩
  · subst h0; omega
  · cases hv
    exact ⟨g, off, rfl, (SlV.cell h j (by omega)).trans hu⟩
theorem one_ext (l : List (Int × Int)) : ∀ u, u ∈ extC l → u.oneCell' = true := fun u hu => by
  unfold extC at hu
  rw [List.mem_flatMap] at hu
  obtain ⟨x, _, hx⟩ := hu
  simp at hx
  rcases hx with rfl | rfl <;> rfl
theorem one_u16 (l : List Int) : ∀ u, u ∈ l.map (Value.int .u16) → u.oneCell' = true := fun u hu => by
  obtain ⟨x, _, rfl⟩ := List.mem_map.1 hu
  rfl
namespace Ca
def grE (hp : Int) (hx : List Int) (G : Int → Option Gr) (m : Mn) (pg : Int) : Int := firstE [noneE m.ext hx.length, longE m.ext hx, busyE G m, fullE hp G m pg]
def grantE (hp : Int) (hx : List Int) (G : Int → Option Gr) (n : Int) (m : Mn) (pg : Int) : Int :=
  if n < 1 ∨ 8 < n ∨ Gp.checkE m ≠ 0 ∨ 4096 < pg then 2 else if (G n).isSome = true then 9 else grE hp hx G m pg
def GrPost (w : World) (a : CAt) (hp : Int) (hx : List Int) (G : Int → Option Gr) (n : Int) (m : Mn) (pg : Int) (e : Ending) (w' : World) : Prop :=
  (grantE hp hx G n m pg ≠ 0 ∧ e = .returned (.int .i64 (grantE hp hx G n m pg)) ∧ Below w.heap.size w w') ∨
  (grantE hp hx G n m pg = 0 ∧ e = .returned (.int .i64 0) ∧ ∃ gb ev pv, Cps w' (a.put n gb ev pv) hp (Gp.upd G n (some ⟨m, pg, 0⟩)) ∧ Mod (fun k => k = a.mb) w w' ∧ (w.heap.size ≤ gb ∧ gb < w'.heap.size) ∧ (∀ k, ev.ownBlock = some k ∨ pv.ownBlock = some k → w.heap.size ≤ k ∧ k < w'.heap.size ∧ k ≠ gb))
theorem ext_len {m : Mn} {hx : List Int} (hl : hx.length ≤ 16) (hok : m.ok) (hc : Gp.checkE m = 0) {x y z : Int} (he : firstE [noneE m.ext hx.length, x, y, z] = 0) : m.ext.length ≤ 16 := by
  have hm : Gp.mayM m = true := by
    unfold Gp.checkE at hc
    split at hc
    · assumption
    · cases hc
  unfold Gp.mayM at hm
  simp only [Bool.and_eq_true] at hm
  have hr := hm.1.1.1.1.2
  have hn : extNone m.ext hx.length = false := by
    cases hq : extNone m.ext hx.length with
    | false => rfl
    | true =>
      unfold firstE noneE at he
      rw [hq] at he
      simp at he
  unfold extNone at hn
  rw [List.any_eq_false] at hn
  rcases Nat.lt_or_ge 16 m.ext.length with q | q
  · exfalso
    have h16 : m.ext[16]? = some m.ext[16] := List.getElem?_eq_getElem q
    have h1 := rises_at hr (fun x hx => (hok.e x hx).1) 16 _ h16
    have h2 := hn _ (List.mem_of_getElem? h16)
    simp at h2
    omega
  · exact q
theorem may_num {m : Mn} (hc : Gp.checkE m = 0) : m.ports.length ≤ 16 ∧ m.pages ≤ 1024 := by
  have hm : Gp.mayM m = true := by
    unfold Gp.checkE at hc
    split at hc
    · assumption
    · cases hc
  unfold Gp.mayM at hm
  simp only [Bool.and_eq_true, decide_eq_true_eq] at hm
  exact ⟨hm.1.2, hm.2⟩
set_option maxRecDepth 100000 in
set_option maxHeartbeats 8000000 in
theorem grant_in {w : World} {a : CAt} {hp : Int} {hx : List Int} {G : Int → Option Gr} (h : Cps w a hp G) (hp1 : hp ≤ 4096) {n pg : Int} (n1 : 1 ≤ n) (n8 : n ≤ 8) (g0 : 0 ≤ pg) (g1 : pg ≤ 4096) (hh : SlV w 41 1 a.hv hx.length (hx.map (Value.int .u32))) (hl : hx.length ≤ 16) {m : Mn} {ev pv : Value} (hm : MnAt w ev pv m) (hok : m.ok) :
    Calls Tryz.prog 83 #[.pointer (some ⟨a.cb, 0, none⟩), .int .i64 n, .agg (m.cells ev pv), .int .u32 pg] w (GrPost w a hp hx G n m pg) := by
  have hb0 : Below w.heap.size w (w.alloc (.cells (m.cells ev pv) 45)) := (Below.refl _ _).alloc (Nat.le_refl _) _
  have hb1 := hb0.alloc hb0.size (.cells #[.int .u32 pg] 41)
  have hbk0 : ((w.alloc (.cells (m.cells ev pv) 45)).alloc (.cells #[.int .u32 pg] 41)).heap[w.heap.size]? = some (.cells (m.cells ev pv) 45) := (Below.heap_alloc _ _ _ (lt_of_block (heap_alloc_new w _))).trans (heap_alloc_new w _)
  have hbk1 := heap_alloc_new (w.alloc (.cells (m.cells ev pv) 45)) (.cells #[.int .u32 pg] 41)
  rw [show (w.alloc (.cells (m.cells ev pv) 45)).heap.size = w.heap.size + 1 by simp] at hbk1
  have HB1 := Lib.hid hb1
  have HBk := Lib.hid (And.intro hbk0 hbk1)
  have HCk := Lib.hid (Dm.check (hm.below hb1))
  have HCps := Lib.hid fun V (hV : Below w.heap.size w V) => h.below hV
  have HMn := Lib.hid fun V (hV : Below w.heap.size w V) => hm.below hV
  have HAll := Lib.hid fun (hq : m.pages ≤ 1024) (V : World) (hV : Below w.heap.size w V) (hpb : V.heap[w.heap.size + 1]? = some (.cells #[.int .u32 pg] 41 (0, 0))) => all (w := V) (a := a) (m := m) (ev := ev) (pv := pv) (pb := w.heap.size + 1) (noneE m.ext hx.length) (longE m.ext hx) (busyE G m) (fullE hp G m pg)
    (fun U hU => none_any (h.below (below_th hV hU)) (hh.below (below_th hV hU)) hl (hm.below (below_th hV hU)) hok)
    (fun U hU => long_any (h.below (below_th hV hU)) (hh.below (below_th hV hU)) hl (hm.below (below_th hV hU)) hok)
    (fun U hU => busy (h.below (below_th hV hU)) (hm.below (below_th hV hU)))
    (fun U hU => full (h.below (below_th hV hU)) hp1 ((hU.block _ (lt_of_block hpb)).trans hpb) hok.p0 hq (by omega) (by omega))
  have HOk := Lib.hid hok
  have HL := Lib.hid hl
  have HPp := Lib.hid hp1
  have HZ0 := Lib.hid (Below.refl w.heap.size w)
  have HF1 : Hid (∀ V, Gp.checkE m ≠ 0 → Below w.heap.size w V → GrPost w a hp hx G n m pg (.returned (.int .i64 2)) V) := Lib.hid fun V h1 h2 => by
    have e : grantE hp hx G n m pg = 2 := if_pos (.inr (.inr (.inl h1)))
    exact .inl ⟨by rw [e]; decide, by rw [e], h2⟩
  have hck : Gp.checkE m = 0 → ¬ (n < 1 ∨ 8 < n ∨ Gp.checkE m ≠ 0 ∨ 4096 < pg) := fun h1 => by omega
  have HF9 : Hid (∀ V, Gp.checkE m = 0 → (G n).isSome = true → Below w.heap.size w V → GrPost w a hp hx G n m pg (.returned (.int .i64 9)) V) := Lib.hid fun V h1 h2 h3 => by
    have e : grantE hp hx G n m pg = 9 := (if_neg (hck h1)).trans (if_pos h2)
    exact .inl ⟨by rw [e]; decide, by rw [e], h3⟩
  have HF2 : Hid (∀ V, Gp.checkE m = 0 → G n = none → grE hp hx G m pg ≠ 0 → Below w.heap.size w V → GrPost w a hp hx G n m pg (.returned (.int .i64 (grE hp hx G m pg))) V) := Lib.hid fun V h1 hn h2 h3 => by
    have e : grantE hp hx G n m pg = grE hp hx G m pg := (if_neg (hck h1)).trans (if_neg (by rw [hn]; simp))
    exact .inl ⟨by rw [e]; exact h2, by rw [e], h3⟩
  have HF3 : Hid (∀ V gb ev pv, Gp.checkE m = 0 → G n = none → grE hp hx G m pg = 0 → Cps V (a.put n gb ev pv) hp (Gp.upd G n (some ⟨m, pg, 0⟩)) → Mod (fun k => k = a.mb) w V → (w.heap.size ≤ gb ∧ gb < V.heap.size) → (∀ k, ev.ownBlock = some k ∨ pv.ownBlock = some k → w.heap.size ≤ k ∧ k < V.heap.size ∧ k ≠ gb) → GrPost w a hp hx G n m pg (.returned (.int .i64 0)) V) := Lib.hid fun V gb ev pv h1 hn h2 h3 h4 h5 h6 => by
    have e : grantE hp hx G n m pg = grE hp hx G m pg := (if_neg (hck h1)).trans (if_neg (by rw [hn]; simp))
    exact .inr ⟨by rw [e]; exact h2, rfl, gb, ev, pv, h3, h4, h5, h6⟩
  clear hck
  generalize GrPost w a hp hx G n m pg = PQ at *
  have hge : grE hp hx G m pg = firstE [noneE m.ext hx.length, longE m.ext hx, busyE G m, fullE hp G m pg] := rfl
  rw [← hge] at HAll
  have HGe := Lib.hid hge
  have HCell : Hid (∀ V, Below ((w.alloc (.cells (m.cells ev pv) 45)).alloc (.cells #[.int .u32 pg] 41)).heap.size ((w.alloc (.cells (m.cells ev pv) 45)).alloc (.cells #[.int .u32 pg] 41)) V → V.heap[w.heap.size]? = some (.cells (m.cells ev pv) 45) ∧ V.heap[w.heap.size + 1]? = some (.cells #[.int .u32 pg] 41)) := Lib.hid fun V hV => ⟨(hV.block _ (lt_of_block HBk.out.1)).trans HBk.out.1, (hV.block _ (lt_of_block HBk.out.2)).trans HBk.out.2⟩
  obtain ⟨c0, c1, c2, c3, cf⟩ := man_cells hbk0
  unfold Mn.cells at *
  clear hb0 hb1 hbk0 hbk1 h hh hm hok hl hge
  go_enter Tryz.func83, Tryz.ntmps83
  go_wp2_with fail
  refine HCk.out.mono ?_
  rintro e w2 ⟨rfl, hb2⟩
  obtain ⟨q0, q1⟩ := HCell.out _ hb2
  have HB2 := Lib.hid (below_th HB1.out hb2)
  have HG2 := Lib.hid hb2
  have HK2 := Lib.hid (And.intro q0 q1)
  clear c0 c1 c2 c3 cf hb2
  obtain ⟨c0, c1, c2, c3, cf⟩ := man_cells q0
  have c4 : w2.cell? ⟨w.heap.size + 1, 0, none⟩ = some (.int .u32 pg) := by unfold World.cell?; rw [q1]; rfl
  clear q0 q1
  obtain ⟨ce, hce⟩ : ∃ ce, Gp.checkE m = ce := ⟨_, rfl⟩
  rw [hce]
  by_cases e0 : ce = 0
  case neg =>
    have hne : (ce != 0) = true := bne_iff_ne.2 e0
    have hend := HF1.out w2 (by rw [hce]; exact e0) HB2.out
    clear HF1 HF2 HF3 HF9 hce
    go_wp2
    first
      | exact hend
      | (go_ret; exact hend)
  subst e0
  have HCe := Lib.hid hce
  have hmay := may_num hce
  obtain ⟨x0, x1, x2⟩ := (HCps.out w2 HB2.out).cells
  have hlk := (HCps.out w2 HB2.out).look (n := n) ⟨by omega, by omega⟩
  have HMay := Lib.hid hmay
  clear hce hmay
  by_cases hgn : (G n).isSome = true
  · rw [if_pos hgn] at hlk
    have hend := HF9.out w2 HCe.out hgn HB2.out
    clear HF1 HF2 HF3 HF9 HAll
    go_wp2
    first
      | exact hend
      | (go_ret; exact hend)
  rw [if_neg hgn] at hlk
  have HNo : Hid (G n = none) := Lib.hid (by cases q : G n with | none => rfl | some g => rw [q] at hgn; exact absurd rfl hgn)
  clear hgn HF9
  go_wp2_with fail
  refine (HAll.out HMay.out.2 _ HB2.out HK2.out.2).mono ?_
  rintro e w3 ⟨rfl, hb3⟩
  have HG3 := Lib.hid (below_th HG2.out hb3)
  have HB3 := Lib.hid (below_th HB2.out hb3)
  obtain ⟨ge, hge⟩ : ∃ ge, grE hp hx G m pg = ge := ⟨_, rfl⟩
  rw [hge]
  clear hb3 c0 c1 c2 c3 cf c4 x0 x1 x2 hlk
  by_cases e0 : ge = 0
  case neg =>
    have hne : (ge != 0) = true := bne_iff_ne.2 e0
    have hend := HF2.out w3 HCe.out HNo.out (by rw [hge]; exact e0) HB3.out
    rw [hge] at hend
    clear HF1 HF2 HF3 hge
    go_wp2
    first
      | exact hend
      | (go_ret; exact hend)
  subst e0
  have hel := ext_len HL.out HOk.out HCe.out (HGe.out.symm.trans hge)
  have HGz := Lib.hid hge
  clear hge
  obtain ⟨eo, ec, rfl⟩ := (HMn.out w HZ0.out).e.form
  obtain ⟨po, pc, rfl⟩ := (HMn.out w HZ0.out).p.form
  have HMay := Lib.hid (may_num HCe.out)
  have HC1 : Hid (Calls Tryz.prog 192 #[.slice eo m.ext.length ec] w3.drew fun e w' => ∃ v', e = .returned v' ∧ SlV w' 318 2 v' m.ext.length (extC m.ext) ∧ (∀ b, v'.ownBlock = some b → w3.drew.heap.size ≤ b ∧ b < w'.heap.size) ∧ Below w3.drew.heap.size w3.drew w') := Lib.hid (Cl.clone_ext (extC_length _) (slv_at (HMn.out _ HB3.out.drew).e) (by omega) (one_ext _))
  have HC2 : Hid (∀ V, Below w3.drew.heap.size w3.drew V → Calls Tryz.prog 193 #[.slice po m.ports.length pc] V fun e w' => ∃ v', e = .returned v' ∧ SlV w' 22 1 v' m.ports.length (m.ports.map (Value.int .u16)) ∧ (∀ b, v'.ownBlock = some b → V.heap.size ≤ b ∧ b < w'.heap.size) ∧ Below V.heap.size V w') := Lib.hid fun V hV => Cl.clone_u16 (by simp) (slv_at (HMn.out V (below_th HB3.out.drew hV)).p) (by have := HMay.out.1; omega) (one_u16 _)
  have HBd : Hid (∀ V, Below w3.drew.heap.size w3.drew V → V.heap[w.heap.size]? = some (.cells #[.int .u32 m.pages, .slice eo m.ext.length ec, .slice po m.ports.length pc, .bool m.con] 45) ∧ V.heap[w.heap.size + 1]? = some (.cells #[.int .u32 pg] 41)) := Lib.hid fun V hV => HCell.out V (below_th HG3.out.drew hV)
  have HDB : Hid (∀ V, Below w3.drew.heap.size w3.drew V → V.cell? ⟨w.heap.size, 0, none⟩ = some (.int .u32 m.pages) ∧ V.cell? ⟨w.heap.size, 1, none⟩ = some (.slice eo m.ext.length ec) ∧ V.cell? ⟨w.heap.size, 2, none⟩ = some (.slice po m.ports.length pc) ∧ V.cell? ⟨w.heap.size, 3, none⟩ = some (.bool m.con) ∧ ∀ i, V.frozen? ⟨w.heap.size, i, none⟩ = false) := Lib.hid fun V hV => man_cells (m := m) (HBd.out V hV).1
  have HD := Lib.hid (HDB.out w3.drew (Below.refl _ _))
  have HBw : Hid (Below w.heap.size w w3.drew) := Lib.hid HB3.out.drew
  have HWl : Hid (w.heap.size < w3.drew.heap.size) := Lib.hid (lt_of_block (HBd.out _ (Below.refl _ _)).1)
  clear HG3 HG2 HK2 HB2 HB3 HBk HCk HAll HF1 HF2 HCell HB1 HZ0
  go_upto_region 11 with (fail)
  refine wp_region_E (fun w' => w'.cell? ⟨w.heap.size, 2, none⟩ = some (.slice po m.ports.length pc)) 9 (by kernel_rfl) ?_
  change AnyE _ _ _ _ _ _ _ _ _ w3.drew
  generalize hwd : w3.drew = wd at *
  refine LT 0 HD.out.2.2.1 ?_
  refine LT 3 HD.out.2.2.1 ?_
  refine LT 4 HD.out.2.2.1 ?_
  refine LU 1 fun K hK => ?_
  have d1 := HD.out.2.1
  go_simp
  refine LV hK (fun _ => HD.out.2.2.1) ?_; clear hK K
  refine LU 2 fun K hK => ?_
  go_simp
  go_at_call 192
  refine HC1.out.mono ?_
  rintro e w4 ⟨v1, rfl, hs1, ho1, hb4⟩
  have H4 := Lib.hid (And.intro hs1 (And.intro ho1 hb4))
  have D4 := Lib.hid (HDB.out _ hb4)
  obtain ⟨o1, oc1, rfl⟩ := hs1.form
  clear hs1 ho1 hb4
  refine LV hK (fun _ => D4.out.2.2.1) ?_; clear hK K
  refine LT 6 D4.out.2.2.1 ?_
  refine LU 5 fun K hK => ?_
  go_simp
  go_at_call 193
  refine (HC2.out _ H4.out.2.2).mono ?_
  rintro e w5 ⟨v2, rfl, hs2, ho2, hb5⟩
  have H5 := Lib.hid (And.intro hs2 (And.intro ho2 hb5))
  have D5 := Lib.hid (HDB.out _ (below_th H4.out.2.2 hb5))
  obtain ⟨o2, oc2, rfl⟩ := hs2.form
  clear hs2 ho2 hb5
  refine LV hK (fun _ => D5.out.2.2.1) ?_; clear hK K
  have HT6 : Hid (∀ v, (w5.setCell ⟨w.heap.size, 1, none⟩ v).cell? ⟨w.heap.size, 2, none⟩ = some (.slice po m.ports.length pc)) := Lib.hid fun v => (World.cell?_setCell_other w5 ⟨w.heap.size, 1, none⟩ ⟨w.heap.size, 2, none⟩ v (by simp)).trans D5.out.2.2.1
  have HT7 : Hid (∀ v, (w5.setCell ⟨w.heap.size, 1, none⟩ v).frozen? ⟨w.heap.size, 2, none⟩ = false) := Lib.hid fun v => by rw [World.frozen?_setCell]; exact D5.out.2.2.2.2 2
  refine LU 7 fun K hK => ?_
  have e1 := D5.out.2.1
  have e1f := D5.out.2.2.2.2 1
  go_simp
  refine LV hK (fun _ => (HT6.out _)) ?_; clear hK K
  refine LT 8 (HT6.out _) ?_
  refine LU 9 fun K hK => ?_
  have e2 := HT6.out (.slice o1 m.ext.length oc1)
  have e2f := HT7.out (.slice o1 m.ext.length oc1)
  go_simp
  refine hK.out _ _ (fun e => absurd rfl e) (fun _ => ?_)
  clear hK K
  try simp only [Act.put, List.getElem_toArray, List.getElem_cons_succ, List.getElem_cons_zero, List.setIfInBounds_toArray, List.set_cons_zero, List.set_cons_succ]
  refine E_done (by kernel_rfl) ?_ _
  have hb5 : Below wd.heap.size wd w5 := below_th H4.out.2.2 H5.out.2.2
  have hwl5 : w.heap.size < w5.heap.size := Nat.lt_of_lt_of_le HWl.out hb5.size
  have hbw5 : Below w.heap.size w w5 := below_th HBw.out hb5
  have hk5 := HBd.out w5 hb5
  have hm6 : Mod (fun i => i = w.heap.size) w5 ((w5.setCell ⟨w.heap.size, 1, none⟩ (.slice o1 m.ext.length oc1)).setCell ⟨w.heap.size, 2, none⟩ (.slice o2 m.ports.length oc2)) := Mod.setCell (F := fun i => i = w.heap.size) (Mod.setCell (F := fun i => i = w.heap.size) (Mod.refl _ _) ⟨w.heap.size, 1, none⟩ (.inl rfl) _) ⟨w.heap.size, 2, none⟩ (.inl rfl) _
  have hk6 := heap_setCell_same (w5.setCell ⟨w.heap.size, 1, none⟩ (.slice o1 m.ext.length oc1)) w.heap.size 2 _ _ (.slice o2 m.ports.length oc2) (heap_setCell_same w5 w.heap.size 1 _ _ (.slice o1 m.ext.length oc1) hk5.1)
  have hk6b := (hm6.block _ (lt_of_block hk5.2) (by omega)).trans hk5.2
  have hz6 : ((w5.setCell ⟨w.heap.size, 1, none⟩ (.slice o1 m.ext.length oc1)).setCell ⟨w.heap.size, 2, none⟩ (.slice o2 m.ports.length oc2)).heap.size = w5.heap.size := by simp [World.setCell]
  have hwd := HBw.out.size
  have hs1 := ((H4.out.1.below H5.out.2.2).mod hm6 fun k hk e => by have := (H4.out.2.1 k hk).1; have := HWl.out; omega)
  have hs2 := (H5.out.1.mod hm6 fun k hk e => by have := (H5.out.2.1 k hk).1; have := H4.out.2.2.size; have := HWl.out; omega)
  have ho1 : ∀ k, (Value.slice o1 m.ext.length oc1).ownBlock = some k → wd.heap.size ≤ k ∧ k < w5.heap.size := fun k hk => ⟨(H4.out.2.1 k hk).1, Nat.lt_of_lt_of_le (H4.out.2.1 k hk).2 H5.out.2.2.size⟩
  have ho2 : ∀ k, (Value.slice o2 m.ports.length oc2).ownBlock = some k → wd.heap.size ≤ k ∧ k < w5.heap.size := fun k hk => ⟨Nat.le_trans H4.out.2.2.size (H5.out.2.1 k hk).1, (H5.out.2.1 k hk).2⟩
  have hbw6 := Mod.below hbw5 hm6 hbw5.size fun k _ hk => Nat.le_of_eq hk.symm
  rw [← hz6] at ho1 ho2
  have hwl6 : wd.heap.size ≤ ((w5.setCell ⟨w.heap.size, 1, none⟩ (.slice o1 m.ext.length oc1)).setCell ⟨w.heap.size, 2, none⟩ (.slice o2 m.ports.length oc2)).heap.size := by rw [hz6]; exact hb5.size
  clear hz6 hm6 hk5 hb5 hwl5 hbw5 HT6 HT7 D5 D4 H4 H5 HC1 HC2 HD HDB HBd
  go_upto_region 12 with (fail)
  generalize (w5.setCell ⟨w.heap.size, 1, none⟩ (.slice o1 m.ext.length oc1)).setCell ⟨w.heap.size, 2, none⟩ (.slice o2 m.ports.length oc2) = w6 at *
  clear e1 e1f e2 e2f d1
  replace hk6 : w6.heap[w.heap.size]? = some (.cells #[.int .u32 m.pages, .slice o1 m.ext.length oc1, .slice o2 m.ports.length oc2, .bool m.con] 45) := hk6
  have HMn6 : Hid (MnAt w6 (.slice o1 m.ext.length oc1) (.slice o2 m.ports.length oc2) m) := Lib.hid ⟨hs1, hs2⟩
  have HO1 := Lib.hid ho1
  have HO2 := Lib.hid ho2
  have HB6 := Lib.hid hbw6
  have HW6 := Lib.hid hwl6
  have HH := Lib.hid hwd
  have HEd : Hid (∀ V, Below w6.drew.heap.size w6.drew V → (V.cell? ⟨w.heap.size, 0, none⟩ = some (.int .u32 m.pages) ∧ V.cell? ⟨w.heap.size, 1, none⟩ = some (.slice o1 m.ext.length oc1) ∧ V.cell? ⟨w.heap.size, 2, none⟩ = some (.slice o2 m.ports.length oc2) ∧ V.cell? ⟨w.heap.size, 3, none⟩ = some (.bool m.con)) ∧ V.cell? ⟨w.heap.size + 1, 0, none⟩ = some (.int .u32 pg) ∧ V.cell? ⟨a.cb, 2, none⟩ = some (.map (some a.mb))) := Lib.hid fun V hV => by
    have h1 := (hV.block _ (show w.heap.size < w6.drew.heap.size from lt_of_block hk6)).trans hk6
    have h2 := (hV.block _ (show w.heap.size + 1 < w6.drew.heap.size from lt_of_block hk6b)).trans hk6b
    obtain ⟨g0, g1, g2, g3, _⟩ := man_cells (m := m) h1
    refine ⟨⟨g0, g1, g2, g3⟩, ?_, (HCps.out V (below_th HB6.out.drew hV)).cells.2.2⟩
    unfold World.cell?
    rw [h2]
    rfl
  have HE := Lib.hid (HEd.out w6.drew (Below.refl _ _))
  have HEA : Hid (∀ o, ((w6.drew.alloc o).cell? ⟨w.heap.size, 0, none⟩ = some (.int .u32 m.pages) ∧ (w6.drew.alloc o).cell? ⟨w.heap.size, 1, none⟩ = some (.slice o1 m.ext.length oc1) ∧ (w6.drew.alloc o).cell? ⟨w.heap.size, 2, none⟩ = some (.slice o2 m.ports.length oc2) ∧ (w6.drew.alloc o).cell? ⟨w.heap.size, 3, none⟩ = some (.bool m.con)) ∧ (w6.drew.alloc o).cell? ⟨w.heap.size + 1, 0, none⟩ = some (.int .u32 pg) ∧ (w6.drew.alloc o).cell? ⟨a.cb, 2, none⟩ = some (.map (some a.mb))) := Lib.hid fun o => HEd.out _ ((Below.refl _ _).alloc (Nat.le_refl _) o)
  have hb7 : Below w6.drew.heap.size w6.drew (w6.drew.alloc (.cells #[.int .u32 m.pages, .slice o1 m.ext.length oc1, .slice o2 m.ports.length oc2, .bool m.con, .int .u32 pg, .int .u32 0] 217)) := (Below.refl _ _).alloc (Nat.le_refl _) _
  have hbw7 := below_th HB6.out.drew hb7
  have hmbl : a.mb < w.heap.size := (HCps.out w (Below.refl _ _)).lt (.inr (.inl rfl))
  have hd6 : w6.drew.heap.size = w6.heap.size := rfl
  have hft : Gp.sum G + (m.pages + pg) ≤ hp := by
    have h1 := HGe.out.symm.trans HGz.out
    have h2 : fullE hp G m pg = 0 := by
      unfold firstE at h1
      by_cases q : fullE hp G m pg = 0
      · exact q
      · exfalso
        have hq : (fullE hp G m pg != 0) = true := bne_iff_ne.2 q
        simp only [List.find?_cons, hq] at h1
        split at h1
        · rename_i z; simp at h1; rw [h1] at z; simp at z
        · split at h1
          · rename_i z; simp at h1; rw [h1] at z; simp at z
          · split at h1
            · rename_i z; simp at h1; rw [h1] at z; simp at z
            · simp at h1; exact q h1
    unfold fullE at h2
    split at h2
    · cases h2
    · omega
  have hcz := HCps.out w (Below.refl _ _)
  obtain ⟨w8, hrun, hc8, hm8⟩ := Cps.insert (HCps.out _ hbw7) n1 n8 HNo.out (g := ⟨m, pg, 0⟩) (gb := w6.drew.heap.size) (heap_alloc_new w6.drew (.cells #[.int .u32 m.pages, .slice o1 m.ext.length oc1, .slice o2 m.ports.length oc2, .bool m.con, .int .u32 pg, .int .u32 0] 217)) ((HMn6.out.below (Below.refl _ _).drew).below hb7) ⟨HOk.out, Int.le_refl 0, HOk.out.p0, g0⟩ (by omega) (fun k hk e => by have := hcz.lt (.inr (.inr ⟨k, hk, rfl⟩)); omega) hft
  have hz7 : (w6.drew.alloc (.cells #[.int .u32 m.pages, .slice o1 m.ext.length oc1, .slice o2 m.ports.length oc2, .bool m.con, .int .u32 pg, .int .u32 0] 217)).heap.size = w6.heap.size + 1 := by simp
  have hz8 := hm8.size
  have hm9 : Mod (fun k => k = a.mb) w w8 := (Mod.of_below hbw7 _).trans hm8 fun _ _ g => .inl g
  have hend := HF3.out w8 w6.drew.heap.size (.slice o1 m.ext.length oc1) (.slice o2 m.ports.length oc2) HCe.out HNo.out HGz.out hc8 hm9 ⟨by omega, by omega⟩ (fun k hk => by
    rcases hk with hk | hk
    · have := HO1.out k hk; omega
    · have := HO2.out k hk; omega)
  have HRun := Lib.hid hrun
  have HEnd := Lib.hid hend
  clear hcz hft hb7 hbw7 hmbl hd6 hrun hc8 hm8 hz7 hz8 hm9 hend HF3 HO1 HO2 HB6 HW6 HH HMn6 HEd hk6 hk6b hs1 hs2 ho1 ho2 hbw6 hwl6 hwd
  refine wp_region_E (fun w' => (w'.cell? ⟨w.heap.size, 0, none⟩ = some (.int .u32 m.pages) ∧ w'.cell? ⟨w.heap.size, 1, none⟩ = some (.slice o1 m.ext.length oc1) ∧ w'.cell? ⟨w.heap.size, 2, none⟩ = some (.slice o2 m.ports.length oc2) ∧ w'.cell? ⟨w.heap.size, 3, none⟩ = some (.bool m.con)) ∧ w'.cell? ⟨w.heap.size + 1, 0, none⟩ = some (.int .u32 pg) ∧ w'.cell? ⟨a.cb, 2, none⟩ = some (.map (some a.mb))) 9 (by kernel_rfl) ?_
  change AnyE _ _ _ _ _ _ _ _ _ w6.drew
  generalize hwe : w6.drew = we at *
  refine LT 0 HE.out ?_
  refine LT 1 HE.out ?_
  refine LT 2 HE.out ?_
  refine LT 3 HE.out ?_
  refine LT 4 HE.out ?_
  refine LT 5 HE.out ?_
  refine LT 6 HE.out ?_
  refine LT 7 HE.out ?_
  refine LU 8 fun K hK => ?_
  go_simp
  refine LV hK (fun _ => (HEA.out _)) ?_; clear hK K
  refine LU 9 fun K hK => ?_
  have hrun := HRun.out
  go_simp
  refine hK.out _ _ (fun e => absurd rfl e) (fun _ => ?_)
  clear hK K
  try simp only [Act.put, List.getElem_toArray, List.getElem_cons_succ, List.getElem_cons_zero, List.setIfInBounds_toArray, List.set_cons_zero, List.set_cons_succ]
  refine E_done (by kernel_rfl) ?_ _
  clear hrun
  go_wp2
  first
    | exact HEnd.out
    | (go_ret; exact HEnd.out)
set_option maxRecDepth 100000 in
set_option maxHeartbeats 8000000 in
theorem grant {w : World} {a : CAt} {hp : Int} {hx : List Int} {G : Int → Option Gr} (h : Cps w a hp G) (hp1 : hp ≤ 4096) {n pg : Int} (g0 : 0 ≤ pg) (hh : SlV w 41 1 a.hv hx.length (hx.map (Value.int .u32))) (hl : hx.length ≤ 16) {m : Mn} {ev pv : Value} (hm : MnAt w ev pv m) (hok : m.ok) :
    Calls Tryz.prog 83 #[.pointer (some ⟨a.cb, 0, none⟩), .int .i64 n, .agg (m.cells ev pv), .int .u32 pg] w (GrPost w a hp hx G n m pg) := by
  by_cases q : 1 ≤ n ∧ n ≤ 8 ∧ pg ≤ 4096
  · exact grant_in h hp1 q.1 q.2.1 g0 q.2.2 hh hl hm hok
  have hb0 : Below w.heap.size w (w.alloc (.cells (m.cells ev pv) 45)) := (Below.refl _ _).alloc (Nat.le_refl _) _
  have hb1 := hb0.alloc hb0.size (.cells #[.int .u32 pg] 41)
  have hbk0 : ((w.alloc (.cells (m.cells ev pv) 45)).alloc (.cells #[.int .u32 pg] 41)).heap[w.heap.size]? = some (.cells (m.cells ev pv) 45) := (Below.heap_alloc _ _ _ (lt_of_block (heap_alloc_new w _))).trans (heap_alloc_new w _)
  have hbk1 := heap_alloc_new (w.alloc (.cells (m.cells ev pv) 45)) (.cells #[.int .u32 pg] 41)
  rw [show (w.alloc (.cells (m.cells ev pv) 45)).heap.size = w.heap.size + 1 by simp] at hbk1
  have HCk := Lib.hid (Dm.check (hm.below hb1))
  have HBk := Lib.hid (And.intro hbk0 hbk1)
  have HB1 := Lib.hid hb1
  have he : grantE hp hx G n m pg = 2 := if_pos (by omega)
  have HF : Hid (∀ V, Below w.heap.size w V → GrPost w a hp hx G n m pg (.returned (.int .i64 2)) V) := Lib.hid fun V hV => .inl ⟨by rw [he]; decide, by rw [he], hV⟩
  generalize GrPost w a hp hx G n m pg = PQ at *
  obtain ⟨c0, c1, c2, c3, cf⟩ := man_cells hbk0
  unfold Mn.cells at *
  clear hb0 hb1 hbk0 hbk1 he h hh hm hok hl
  by_cases q1 : n < 1
  · have hend := HF.out _ HB1.out
    go_enter Tryz.func83, Tryz.ntmps83
    go_wp2
    first
      | exact hend
      | (go_ret; exact hend)
  by_cases q8 : 8 < n
  · have hend := HF.out _ HB1.out
    go_enter Tryz.func83, Tryz.ntmps83
    go_wp2
    first
      | exact hend
      | (go_ret; exact hend)
  have qp : 4096 < pg := by omega
  clear q
  go_enter Tryz.func83, Tryz.ntmps83
  go_wp2_with fail
  refine HCk.out.mono ?_
  rintro e w2 ⟨rfl, hb2⟩
  have hend := HF.out _ (below_th HB1.out hb2)
  have q1' := (hb2.block _ (lt_of_block HBk.out.2)).trans HBk.out.2
  have c4 : w2.cell? ⟨w.heap.size + 1, 0, none⟩ = some (.int .u32 pg) := by unfold World.cell?; rw [q1']; rfl
  clear hb2 q1' c0 c1 c2 c3 cf
  obtain ⟨ce, hce⟩ : ∃ ce, Gp.checkE m = ce := ⟨_, rfl⟩
  rw [hce]
  clear hce
  by_cases e0 : ce = 0
  · subst e0
    go_wp2
    first
      | exact hend
      | (go_ret; exact hend)
  · have hne : (ce != 0) = true := bne_iff_ne.2 e0
    go_wp2
    first
      | exact hend
      | (go_ret; exact hend)
end Ca
end Go.Proofs.YtgdodbcpnmfnnaaGreat
namespace Go.Proofs.YtgdodbcpnmfnnaaGreat
open Go.RowKit
set_option linter.unusedVariables false
set_option linter.unusedSimpArgs false
theorem KStep.grant {w w' : World} {a : KAt} {K : Kn} (h : Knl w a K) {n : Int} {g : Gr} {gb : Nat} {ev pv : Value} (hc : Cps w' (a.c.put n gb ev pv) K.hp (Gp.upd K.g n (some g))) (hm : Mod (fun k => k = a.c.mb) w w') (hg : w.heap.size ≤ gb ∧ gb < w'.heap.size) (hv : ∀ k, ev.ownBlock = some k ∨ pv.ownBlock = some k → w.heap.size ≤ k ∧ k < w'.heap.size ∧ k ≠ gb) :
    ∃ a', KStep w w' a K a' { K with g := Gp.upd K.g n (some g) } := by
  have hz := hm.size
  have hmb : a.tag a.c.mb = 2 := h.t2 _ (.inr (.inl rfl))
  have ne : ∀ k, a.tag k ≠ 2 → ¬ k = a.c.mb := fun k hk e => hk (e ▸ hmb)
  obtain ⟨T, hT⟩ : ∃ T : Nat → Nat, T = fun k => if k < w.heap.size then a.tag k else if k = gb then 2 else if k < w'.heap.size then 5 else 0 := ⟨_, rfl⟩
  have To : ∀ k, k < w.heap.size → T k = a.tag k := fun k hk => by rw [hT]; exact if_pos hk
  have Ta : ∀ k, a.tag k ≠ 0 → T k = a.tag k := fun k hk => To k (h.lt k hk)
  have Tg : T gb = 2 := by
    rw [hT]
    show (if gb < w.heap.size then _ else _) = 2
    rw [if_neg (by omega), if_pos rfl]
  have Tv : ∀ k, ev.ownBlock = some k ∨ pv.ownBlock = some k → T k = 5 := fun k hk => by
    have := hv k hk
    rw [hT]
    show (if k < w.heap.size then _ else _) = 5
    rw [if_neg (by omega), if_neg (by omega), if_pos this.2.1]
  have hsm : ∀ k, (Gp.upd K.g n (some g) k).isSome = true → k = n ∨ k ≠ n ∧ (K.g k).isSome = true := fun k hk => by
    by_cases e : k = n
    · exact .inl e
    · rw [Gp.upd_ne _ _ e] at hk
      exact .inr ⟨e, hk⟩
  refine ⟨{ a with c := a.c.put n gb ev pv, tag := T }, ?_⟩
  exact ⟨{ head := (hm.block _ (lt_of_block h.head) (ne _ (by rw [h.t1]; decide))).trans h.head
           hx := SlV.mod h.hx hm fun k hk => ne k (by rw [h.t5 k (.inl hk)]; decide)
           chx := SlV.mod h.chx hm fun k hk => ne k (by rw [h.t5 k (.inr (.inl hk))]; decide)
           caps := hc
           nic := KStep.nic_fit (h.nic.keep hm fun k (hk : a.tag k = 3) => ne k (by rw [hk]; decide)) fun k (hk : a.tag k = 3) _ => (Ta k (by rw [hk]; decide)).trans hk
           len := h.len
           outer := h.outer.mod hm fun k hk => ne k (by rw [h.t4 k hk]; decide)
           inner := fun i v l hv hl => (h.inner i v l hv hl).mod hm fun k hk => ne k (by rw [h.t6 i v k hv hk]; omega)
           ok := ⟨h.ok.n0, h.ok.n1, h.ok.bs, h.ok.q, h.ok.hl, h.ok.g0⟩
           t1 := (Ta _ (by rw [h.t1]; decide)).trans h.t1
           t2 := fun k hk => by
             rcases hk with e | e | ⟨x, hx, e⟩
             · have := h.t2 k (.inl e)
               exact (Ta k (by rw [this]; decide)).trans this
             · have := h.t2 k (.inr (.inl e))
               exact (Ta k (by rw [this]; decide)).trans this
             · rcases hsm x hx with rfl | ⟨q, q'⟩
               · have e : k = (a.c.put x gb ev pv).gb x := e
                 rw [(a.c.put_at x gb ev pv).1] at e
                 rw [e]; exact Tg
               · have e : k = (a.c.put n gb ev pv).gb x := e
                 rw [(a.c.put_ne gb ev pv q).1] at e
                 have := h.t2 k (.inr (.inr ⟨x, q', e⟩))
                 exact (Ta k (by rw [this]; decide)).trans this
           t4 := fun k hk => (Ta k (by rw [h.t4 k hk]; decide)).trans (h.t4 k hk)
           t5 := fun k hk => by
             rcases hk with e | e | e
             · have := h.t5 k (.inl e)
               exact (Ta k (by rw [this]; decide)).trans this
             · have := h.t5 k (.inr (.inl e))
               exact (Ta k (by rw [this]; decide)).trans this
             · obtain ⟨x, hx, e⟩ := e
               rcases hsm x hx with rfl | ⟨q, q'⟩
               · have e : ((a.c.put x gb ev pv).ev x).ownBlock = some k ∨ ((a.c.put x gb ev pv).pv x).ownBlock = some k := e
                 rw [(a.c.put_at x gb ev pv).2.1, (a.c.put_at x gb ev pv).2.2] at e
                 exact Tv k e
               · have e : ((a.c.put n gb ev pv).ev x).ownBlock = some k ∨ ((a.c.put n gb ev pv).pv x).ownBlock = some k := e
                 rw [(a.c.put_ne gb ev pv q).2.1, (a.c.put_ne gb ev pv q).2.2] at e
                 have := h.t5 k (.inr (.inr ⟨x, q', e⟩))
                 exact (Ta k (by rw [this]; decide)).trans this
           t6 := fun i v k hv hk => (Ta k (by rw [h.t6 i v k hv hk]; omega)).trans (h.t6 i v k hv hk)
           lt := fun k hk => by
             have hk : T k ≠ 0 := hk
             rcases Nat.lt_or_ge k w.heap.size with g | g
             · omega
             · rw [hT] at hk
               have hk : (if k < w.heap.size then a.tag k else if k = gb then 2 else if k < w'.heap.size then 5 else 0) ≠ 0 := hk
               rw [if_neg (by omega)] at hk
               split at hk
               · omega
               · split at hk
                 · assumption
                 · exact absurd rfl hk }, ⟨rfl, rfl, rfl⟩, hm.mono fun i _ g => by subst g; exact ⟨by rw [hmb]; decide, by rw [hmb]; decide⟩, To⟩
def KGrPost (w : World) (a : KAt) (K : Kn) (n : Int) (m : Mn) (pg : Int) (e : Ending) (w' : World) : Prop :=
  (Ca.grantE K.hp K.hx K.g n m pg ≠ 0 ∧ e = .returned (.int .i64 (Ca.grantE K.hp K.hx K.g n m pg)) ∧ Below w.heap.size w w') ∨
  (Ca.grantE K.hp K.hx K.g n m pg = 0 ∧ e = .returned (.int .i64 0) ∧ ∃ a', KStep w w' a K a' { K with g := Gp.upd K.g n (some ⟨m, pg, 0⟩) })
theorem Kl.grant {w : World} {a : KAt} {K : Kn} (h : Knl w a K) (hp1 : K.hp ≤ 4096) (hl : K.hx.length ≤ 16) {n pg : Int} (g0 : 0 ≤ pg) {m : Mn} {ev pv : Value} (hm : MnAt w ev pv m) (hok : m.ok) :
    Calls Tryz.prog 83 #[.pointer (some ⟨a.c.cb, 0, none⟩), .int .i64 n, .agg (m.cells ev pv), .int .u32 pg] w (KGrPost w a K n m pg) := by
  refine (Ca.grant h.caps hp1 g0 h.chx hl hm hok).mono ?_
  rintro e w' (g | ⟨g2, g3, gb, ev, pv, g4, g5, g6, g7⟩)
  · exact .inl g
  · exact .inr ⟨g2, g3, KStep.grant h g4 g5 g6 g7⟩
end Go.Proofs.YtgdodbcpnmfnnaaGreat
namespace Go.Proofs.YtgdodbcpnmfnnaaGreat
open Go.RowKit
set_option linter.unusedVariables false
set_option linter.unusedSimpArgs false
structure RcE where
  n : Int
  g : Gr
  ev : Value
  pv : Value
def RcE.cells (x : RcE) : List Value := [.int .i64 x.n, .int .u32 x.g.m.pages, x.ev, x.pv, .bool x.g.m.con, .int .u32 x.g.pg, .int .u32 x.g.took]
def RcE.key (x : RcE) : Int × Gr := (x.n, x.g)
def rcC (L : List RcE) : List Value := L.flatMap RcE.cells
theorem rcC_len (L : List RcE) : (rcC L).length = L.length * 7 := by
  unfold rcC
  induction L with
  | nil => rfl
  | cons x l ih => rw [List.flatMap_cons, List.length_append, ih]; simp [RcE.cells]; omega
theorem rcC_at : ∀ (L : List RcE) (i : Nat) (x : RcE), L[i]? = some x → ∀ j, j < 7 → (rcC L)[i * 7 + j]? = x.cells[j]?
  | y :: l, 0, x, h, j, hj => by
    simp at h
    subst h
    have e : rcC (y :: l) = y.cells ++ rcC l := rfl
    rw [e, Nat.zero_mul, Nat.zero_add, List.getElem?_append_left (by simpa [RcE.cells] using hj)]
  | y :: l, i + 1, x, h, j, hj => by
    have := rcC_at l i x (by simpa using h) j hj
    have e : rcC (y :: l) = y.cells ++ rcC l := rfl
    rw [e, List.getElem?_append_right (by simp [RcE.cells]; omega), ← this]
    congr 1
    simp [RcE.cells]
    omega
theorem rcC_one (L : List RcE) (h : ∀ x, x ∈ L → x.ev.oneCell' = true ∧ x.pv.oneCell' = true) : ∀ u, u ∈ rcC L → u.oneCell' = true := fun u hu => by
  unfold rcC at hu
  rw [List.mem_flatMap] at hu
  obtain ⟨x, hm, hx⟩ := hu
  simp [RcE.cells] at hx
  rcases hx with rfl | rfl | rfl | rfl | rfl | rfl | rfl
  · rfl
  · rfl
  · exact (h x hm).1
  · exact (h x hm).2
  · rfl
  · rfl
  · rfl
structure Gp.OkG (hp : Int) (G : Int → Option Gr) : Prop where
  ok : ∀ n, Gp.gok (G n)
  dom : ∀ n, (G n).isSome = true → 1 ≤ n ∧ n ≤ 8
  fit : Gp.sum G ≤ hp
  may : ∀ n g, G n = some g → Gp.checkE g.m = 0
  h1 : hp ≤ 4096
structure RcAt where
  rb : Nat
  hv : Value
  lv : Value
  L : List RcE
structure Rcs (w : World) (a : RcAt) (hp : Int) (G : Int → Option Gr) : Prop where
  head : w.heap[a.rb]? = some (.cells #[.int .u32 hp, a.hv, a.lv] 201 (0, 0))
  row : SlV w 219 7 a.lv a.L.length (rcC a.L)
  mns : ∀ x, x ∈ a.L → MnAt w x.ev x.pv x.g.m
  can : a.L.map RcE.key = Rc.canon G
  ok : Gp.OkG hp G
def RcAt.wf (a : RcAt) (k : Nat) : Prop := k = a.rb ∨ a.lv.ownBlock = some k
def RcAt.rf (a : RcAt) (k : Nat) : Prop := ∃ x, x ∈ a.L ∧ (x.ev.ownBlock = some k ∨ x.pv.ownBlock = some k)
namespace Rcs
variable {w w' : World} {a : RcAt} {hp : Int} {G : Int → Option Gr}
theorem mod {F : Nat → Prop} (h : Rcs w a hp G) (hm : Mod F w w') (hF : ∀ k, a.wf k ∨ a.rf k → ¬ F k) : Rcs w' a hp G :=
  ⟨(hm.block _ (lt_of_block h.head) (hF _ (.inl (.inl rfl)))).trans h.head, h.row.mod hm fun k hk => hF k (.inl (.inr hk)), fun x hx => (h.mns x hx).mod hm (fun k hk => hF k (.inr ⟨x, hx, .inl hk⟩)) fun k hk => hF k (.inr ⟨x, hx, .inr hk⟩), h.can, h.ok⟩
theorem below (h : Rcs w a hp G) (hb : Below w.heap.size w w') : Rcs w' a hp G := h.mod (Mod.of_below hb (fun _ => False)) fun _ _ q => q
theorem cells (h : Rcs w a hp G) : w.cell? ⟨a.rb, 0, none⟩ = some (.int .u32 hp) ∧ w.cell? ⟨a.rb, 1, none⟩ = some a.hv ∧ w.cell? ⟨a.rb, 2, none⟩ = some a.lv ∧ ∀ i, w.frozen? ⟨a.rb, i, none⟩ = false := by
  refine ⟨?_, ?_, ?_, fun i => ?_⟩
  · unfold World.cell?; rw [h.head]; rfl
  · unfold World.cell?; rw [h.head]; rfl
  · unfold World.cell?; rw [h.head]; rfl
  · unfold World.frozen?; rw [h.head]; simp
theorem len (h : Rcs w a hp G) : a.L.length ≤ 8 := by
  have := congrArg List.length h.can
  rw [List.length_map] at this
  rw [this]
  exact Rc.len G
theorem key (h : Rcs w a hp G) {x : RcE} (hx : x ∈ a.L) : 1 ≤ x.n ∧ x.n ≤ 8 ∧ G x.n = some x.g := Rc.mem (x := x.key) (by rw [← h.can]; exact List.mem_map_of_mem hx)
theorem at' (h : Rcs w a hp G) {i : Nat} {x : RcE} (hx : a.L[i]? = some x) : ∃ g off cap, a.lv = .slice (some ⟨g, off, none⟩) a.L.length cap ∧ ∀ j, j < 7 → w.cell? ⟨g, off + (i * 7 + j), none⟩ = x.cells[j]? := by
  have hi := (List.getElem?_eq_some_iff.1 hx).1
  have hr := h.row
  rcases hr.2 with ⟨h0, _⟩ | ⟨g, off, cap, cur, hv, _⟩
  · omega
  · refine ⟨g, off, cap, hv, fun j hj => ?_⟩
    rw [hv] at hr
    rw [hr.cell (i * 7 + j) (by omega)]
    exact rcC_at _ _ _ hx j hj
theorem seven {g o i : Nat} {x : RcE} (h : ∀ j, j < 7 → w.cell? ⟨g, o + (i * 7 + j), none⟩ = x.cells[j]?) : w.cell? ⟨g, o + i * 7, none⟩ = some (.int .i64 x.n) ∧ w.cell? ⟨g, o + i * 7 + 1, none⟩ = some (.int .u32 x.g.m.pages) ∧ w.cell? ⟨g, o + i * 7 + 2, none⟩ = some x.ev ∧ w.cell? ⟨g, o + i * 7 + 3, none⟩ = some x.pv ∧ w.cell? ⟨g, o + i * 7 + 4, none⟩ = some (.bool x.g.m.con) ∧ w.cell? ⟨g, o + i * 7 + 5, none⟩ = some (.int .u32 x.g.pg) ∧ w.cell? ⟨g, o + i * 7 + 6, none⟩ = some (.int .u32 x.g.took) :=
  ⟨h 0 (by omega), h 1 (by omega), h 2 (by omega), h 3 (by omega), h 4 (by omega), h 5 (by omega), h 6 (by omega)⟩
end Rcs
namespace Rc
def idx : List RcE → Int → Option Nat
  | [], _ => none
  | x :: l, n => if x.n = n then some 0 else (idx l n).map (· + 1)
theorem idx_some : ∀ {L : List RcE} {n : Int} {i : Nat}, idx L n = some i → ∃ x, L[i]? = some x ∧ x.n = n ∧ ∀ k y, k < i → L[k]? = some y → y.n ≠ n
  | [], n, i, h => by cases h
  | x :: l, n, i, h => by
    unfold idx at h
    split at h
    · cases h
      exact ⟨x, rfl, by assumption, fun k y hk => absurd hk (Nat.not_lt_zero _)⟩
    · rename_i hne
      cases hr : idx l n with
      | none => rw [hr] at h; cases h
      | some j =>
        rw [hr] at h
        cases h
        obtain ⟨y, h1, h2, h3⟩ := idx_some hr
        refine ⟨y, by simpa using h1, h2, fun k z hk hz => ?_⟩
        cases k with
        | zero => simp at hz; subst hz; exact hne
        | succ k => exact h3 k z (by have hk : k + 1 < j + 1 := hk; omega) (by simpa using hz)
theorem idx_none : ∀ {L : List RcE} {n : Int}, idx L n = none → ∀ x, x ∈ L → x.n ≠ n
  | [], n, _, x, hx => by cases hx
  | y :: l, n, h, x, hx => by
    unfold idx at h
    split at h
    · cases h
    · rename_i hne
      cases hr : idx l n with
      | some j => rw [hr] at h; cases h
      | none =>
        rcases List.mem_cons.1 hx with rfl | q
        · exact hne
        · exact idx_none hr x q
theorem idx_at {L : List RcE} {n : Int} {i : Nat} {x : RcE} (hx : L[i]? = some x) (hn : x.n = n) (hno : ∀ k y, k < i → L[k]? = some y → y.n ≠ n) : idx L n = some i := by
  cases h : idx L n with
  | none => exact absurd hn (idx_none h x (List.mem_of_getElem? hx))
  | some j =>
    obtain ⟨y, h1, h2, h3⟩ := idx_some h
    rcases Nat.lt_trichotomy i j with q | q | q
    · exact absurd hn (h3 i x q hx)
    · rw [q]
    · exact absurd h2 (hno j y q h1)
def idxV (L : List RcE) (n : Int) : Int := match idx L n with | none => -1 | some i => i
section
variable {w : World} {a : RcAt} {hp : Int} {G : Int → Option Gr}
theorem of_none (h : Rcs w a hp G) {n : Int} (hg : G n = none) : idx a.L n = none := by
  cases hi : idx a.L n with
  | none => rfl
  | some i =>
    obtain ⟨x, h1, h2, _⟩ := idx_some hi
    have := (h.key (List.mem_of_getElem? h1)).2.2
    rw [h2, hg] at this
    cases this
theorem of_some (h : Rcs w a hp G) {n : Int} {g : Gr} (hg : G n = some g) : ∃ i x, idx a.L n = some i ∧ a.L[i]? = some x ∧ x.n = n ∧ x.g = g := by
  obtain ⟨n1, n8⟩ := h.ok.dom n (by rw [hg]; rfl)
  have hm := mem_of n1 n8 hg
  rw [← h.can] at hm
  obtain ⟨y, hy, he⟩ := List.mem_map.1 hm
  have hyn : y.n = n := congrArg Prod.fst he
  cases hi : idx a.L n with
  | none => exact absurd hyn (idx_none hi y hy)
  | some i =>
    obtain ⟨x, h1, h2, _⟩ := idx_some hi
    have := (h.key (List.mem_of_getElem? h1)).2.2
    rw [h2, hg] at this
    exact ⟨i, x, rfl, h1, h2, (Option.some.inj this).symm⟩
def fdRel (w : World) (L : List RcE) (n : Int) (vi : Value) (wr : World) : Prop := ∃ i : Nat, i ≤ L.length ∧ vi = .int .i64 i ∧ (∀ (k : Nat) (x : RcE), k < i → L[k]? = some x → x.n ≠ n) ∧ wr = w
set_option maxRecDepth 100000 in
set_option maxHeartbeats 4000000 in
theorem find (h : Rcs w a hp G) (n : Int) : Calls Tryz.prog 115 #[.pointer (some ⟨a.rb, 0, none⟩), .int .i64 n] w fun e w' => e = .returned (.int .i64 (idxV a.L n)) ∧ w = w' := by
  obtain ⟨c0, c1, c2, _⟩ := h.cells
  have hl := h.len
  have H := Lib.hid h
  obtain ⟨ao, ac, hlv⟩ := h.row.form
  rw [hlv] at c2
  clear h
  go_enter Tryz.func115, Tryz.ntmps115
  go_wp2
  go_loopw [5] (fun vi wr => fdRel w a.L n vi wr) (fun vi _ => a.L.length - (intOf vi).toNat)
  case atStart => exact ⟨0, by omega, rfl, fun k _ hk => absurd hk (Nat.not_lt_zero _), rfl⟩
  case round =>
    obtain ⟨i, hi, rfl, hno, rfl⟩ := hrel
    have HNo := Lib.hid hno
    clear hno
    by_cases hin : i < a.L.length
    · obtain ⟨x, hx⟩ : ∃ x, a.L[i]? = some x := ⟨_, List.getElem?_eq_getElem hin⟩
      obtain ⟨g, off, cap, hv, hc⟩ := H.out.at' hx
      rw [hlv] at hv
      simp only [Value.slice.injEq] at hv
      obtain ⟨rfl, _, rfl⟩ := hv
      obtain ⟨x0, _⟩ := Rcs.seven hc
      have hi1 : (i : Int) < a.L.length := by omega
      have HX := Lib.hid hx
      clear hc hx hlv
      by_cases hxn : x.n = n
      · have hb : (x.n == n) = true := beq_iff_eq.2 hxn
        have HV : Hid (idxV a.L n = i) := Lib.hid (by unfold idxV; rw [idx_at HX.out hxn HNo.out])
        clear hxn
        go_wp2
        go_ret
        exact ⟨by rw [HV.out]; rfl, rfl⟩
      · have hb : (x.n == n) = false := beq_eq_false_iff_ne.2 hxn
        have HXn := Lib.hid hxn
        clear hxn
        go_wp2
        refine ⟨⟨i + 1, by omega, by go_num, fun k y hk hy => ?_, rfl⟩, by simp [intOf]; omega⟩
        rcases Nat.lt_or_ge k i with q | q
        · exact HNo.out k y q hy
        · obtain rfl : k = i := by omega
          rw [HX.out] at hy
          cases hy
          exact HXn.out
    · have hi1 : ¬ (i : Int) < a.L.length := by omega
      have HV : Hid (idxV a.L n = -1) := Lib.hid (by
        unfold idxV
        cases hd : idx a.L n with
        | none => rfl
        | some j =>
          obtain ⟨x, h1, h2, _⟩ := idx_some hd
          exact absurd h2 (HNo.out j x (by have := (List.getElem?_eq_some_iff.1 h1).1; omega) h1))
      clear hlv
      go_wp2
      go_ret
      exact ⟨by rw [HV.out]; rfl, rfl⟩
end
end Rc
end Go.Proofs.YtgdodbcpnmfnnaaGreat
namespace Go.Proofs.YtgdodbcpnmfnnaaGreat
open Go.RowKit
set_option linter.unusedVariables false
set_option linter.unusedSimpArgs false
namespace Rc
def MBx (w : World) (b : Nat) (m : Mn) (ev pv : Value) : Prop := w.heap[b]? = some (.cells (m.cells ev pv) 45 (0, 0))
theorem MBx.below {w w' : World} {b : Nat} {m : Mn} {ev pv : Value} (h : MBx w b m ev pv) (hb : Below w.heap.size w w') : MBx w' b m ev pv := (hb.block _ (lt_of_block h)).trans h
def bkRel (w : World) (l : List (Int × Int)) (id : Int) (vi : Value) (wr : World) : Prop := ∃ i : Nat, i ≤ l.length ∧ vi = .int .i64 i ∧ (∀ (k : Nat) (x : Int × Int), k < i → l[k]? = some x → x.1 ≠ id) ∧ wr = w
set_option maxRecDepth 100000 in
set_option maxHeartbeats 4000000 in
theorem blocks {w : World} {m : Mn} {ev pv : Value} (h : MnAt w ev pv m) (id : Int) : Calls Tryz.prog 266 #[.agg (m.cells ev pv), .int .u32 id] w fun e w' => e = .returned (.int .u32 ((Gp.blocksOf m.ext id).getD 0)) ∧ Below w.heap.size w w' := by
  obtain ⟨eo, ec, rfl⟩ := h.e.form
  have hcap := slv_len h.e
  unfold maxLen at hcap
  have hb : Below w.heap.size w (w.alloc (.cells (m.cells (.slice eo m.ext.length ec) pv) 45)) := (Below.refl _ _).alloc (Nat.le_refl _) _
  have hk := heap_alloc_new w (.cells (m.cells (.slice eo m.ext.length ec) pv) 45)
  have HE := Lib.hid (h.below hb).e
  have HB := Lib.hid hb
  obtain ⟨c0, c1, c2, c3, _⟩ := man_cells hk
  unfold Mn.cells at *
  clear h hb hk
  go_enter Tryz.func266, Tryz.ntmps266
  go_wp2
  generalize w.alloc (.cells #[.int .u32 m.pages, .slice eo m.ext.length ec, pv, .bool m.con] 45) = w1 at *
  go_loopw [5] (fun vi wr => bkRel w1 m.ext id vi wr) (fun vi _ => m.ext.length - (intOf vi).toNat)
  case atStart => exact ⟨0, by omega, rfl, fun k _ hk => absurd hk (Nat.not_lt_zero _), rfl⟩
  case round =>
    obtain ⟨i, hi, rfl, hno, rfl⟩ := hrel
    have HNo := Lib.hid hno
    clear hno
    by_cases hin : i < m.ext.length
    · obtain ⟨g, off, rfl, hc0, hc1⟩ := ext_cells HE.out (List.getElem?_eq_getElem hin)
      obtain ⟨x, hx⟩ : ∃ x, m.ext[i] = x := ⟨_, rfl⟩
      rw [hx] at hc0 hc1
      have HX : Hid (m.ext[i]? = some x) := Lib.hid (by rw [List.getElem?_eq_getElem hin, hx])
      have hi1 : (i : Int) < m.ext.length := by omega
      clear hx
      by_cases hxe : x.1 = id
      · have hd : (x.1 == id) = true := beq_iff_eq.2 hxe
        have HV : Hid ((Gp.blocksOf m.ext id).getD 0 = x.2) := Lib.hid (by rw [Ca.blocksOf_at HX.out hxe HNo.out]; rfl)
        clear hxe
        go_wp2
        go_ret
        exact ⟨by rw [HV.out]; rfl, HB.out⟩
      · have hd : (x.1 == id) = false := beq_eq_false_iff_ne.2 hxe
        have HXe := Lib.hid hxe
        clear hxe
        go_wp2
        refine ⟨⟨i + 1, by omega, by go_num, fun k y hk hy => ?_, rfl⟩, by simp [intOf]; omega⟩
        rcases Nat.lt_or_ge k i with q | q
        · exact HNo.out k y q hy
        · obtain rfl : k = i := by omega
          rw [HX.out] at hy
          cases hy
          exact HXe.out
    · have hi1 : ¬ (i : Int) < m.ext.length := by omega
      have HV : Hid ((Gp.blocksOf m.ext id).getD 0 = 0) := Lib.hid (by rw [Ca.blocksOf_none fun k x hk hx => HNo.out k x (by omega) hx]; rfl)
      go_wp2
      go_ret
      exact ⟨by rw [HV.out]; rfl, HB.out⟩
def hpRel (w : World) (l : List Int) (p : Int) (vi : Value) (wr : World) : Prop := ∃ i : Nat, i ≤ l.length ∧ vi = .int .i64 i ∧ (∀ (k : Nat) (x : Int), k < i → l[k]? = some x → x ≠ p) ∧ wr = w
set_option maxRecDepth 100000 in
set_option maxHeartbeats 4000000 in
theorem hasPort {w : World} {m : Mn} {ev pv : Value} (h : MnAt w ev pv m) (p : Int) : Calls Tryz.prog 267 #[.agg (m.cells ev pv), .int .u16 p] w fun e w' => e = .returned (.bool (decide (p ∈ m.ports))) ∧ Below w.heap.size w w' := by
  obtain ⟨po, pc, rfl⟩ := h.p.form
  have hcap := slv_len h.p
  unfold maxLen at hcap
  have hb : Below w.heap.size w (w.alloc (.cells (m.cells ev (.slice po m.ports.length pc)) 45)) := (Below.refl _ _).alloc (Nat.le_refl _) _
  have hk := heap_alloc_new w (.cells (m.cells ev (.slice po m.ports.length pc)) 45)
  have HE := Lib.hid (h.below hb).p
  have HB := Lib.hid hb
  obtain ⟨c0, c1, c2, c3, _⟩ := man_cells hk
  unfold Mn.cells at *
  clear h hb hk
  go_enter Tryz.func267, Tryz.ntmps267
  go_wp2
  generalize w.alloc (.cells #[.int .u32 m.pages, ev, .slice po m.ports.length pc, .bool m.con] 45) = w1 at *
  go_loopw [5] (fun vi wr => hpRel w1 m.ports p vi wr) (fun vi _ => m.ports.length - (intOf vi).toNat)
  case atStart => exact ⟨0, by omega, rfl, fun k _ hk => absurd hk (Nat.not_lt_zero _), rfl⟩
  case round =>
    obtain ⟨i, hi, rfl, hno, rfl⟩ := hrel
    have HNo := Lib.hid hno
    clear hno
    by_cases hin : i < m.ports.length
    · obtain ⟨g, off, rfl, hc0⟩ := u16_cell HE.out (List.getElem?_eq_getElem hin)
      obtain ⟨x, hx⟩ : ∃ x, m.ports[i] = x := ⟨_, rfl⟩
      rw [hx] at hc0
      have HX : Hid (m.ports[i]? = some x) := Lib.hid (by rw [List.getElem?_eq_getElem hin, hx])
      have hi1 : (i : Int) < m.ports.length := by omega
      clear hx
      by_cases hxe : x = p
      · have hd : (x == p) = true := beq_iff_eq.2 hxe
        have HV : Hid (decide (p ∈ m.ports) = true) := Lib.hid (decide_eq_true (by rw [← hxe]; exact List.mem_of_getElem? HX.out))
        clear hxe
        go_wp2
        go_ret
        exact ⟨by rw [HV.out]; rfl, HB.out⟩
      · have hd : (x == p) = false := beq_eq_false_iff_ne.2 hxe
        have HXe := Lib.hid hxe
        clear hxe
        go_wp2
        refine ⟨⟨i + 1, by omega, by go_num, fun k y hk hy => ?_, rfl⟩, by simp [intOf]; omega⟩
        rcases Nat.lt_or_ge k i with q | q
        · exact HNo.out k y q hy
        · obtain rfl : k = i := by omega
          rw [HX.out] at hy
          cases hy
          exact HXe.out
    · have hi1 : ¬ (i : Int) < m.ports.length := by omega
      have HV : Hid (decide (p ∈ m.ports) = false) := Lib.hid (decide_eq_false fun hm => by
        obtain ⟨k, hk⟩ := List.getElem?_of_mem hm
        exact HNo.out k p (by have := (List.getElem?_eq_some_iff.1 hk).1; omega) hk rfl)
      go_wp2
      go_ret
      exact ⟨by rw [HV.out]; rfl, HB.out⟩
end Rc
end Go.Proofs.YtgdodbcpnmfnnaaGreat
namespace Go.Proofs.YtgdodbcpnmfnnaaGreat
open Go.RowKit
set_option linter.unusedVariables false
set_option linter.unusedSimpArgs false
namespace Rc
def pg (x : RcE) : Int := x.g.m.pages + x.g.pg
def sumE (L : List RcE) : Int := (L.map pg).sum
theorem sumE_key (L : List RcE) : sumE L = sumR (L.map RcE.key) := by
  unfold sumE sumR
  rw [List.map_map]
  rfl
theorem sumE_snoc (L : List RcE) (x : RcE) : sumE (L ++ [x]) = sumE L + pg x := by unfold sumE; simp
theorem sumE_app (L M : List RcE) : sumE (L ++ M) = sumE L + sumE M := by unfold sumE; simp
theorem sumE_nn {L : List RcE} (h : ∀ x, x ∈ L → 0 ≤ pg x) : 0 ≤ sumE L := by
  induction L with
  | nil => exact Int.le_refl _
  | cons x l ih =>
    have h1 := h x (List.mem_cons_self ..)
    have h2 := ih fun y hy => h y (List.mem_cons_of_mem _ hy)
    show 0 ≤ ((x :: l).map pg).sum
    rw [List.map_cons, List.sum_cons]
    unfold sumE at h2
    omega
theorem take_succ {L : List RcE} {i : Nat} {x : RcE} (hx : L[i]? = some x) : L.take (i + 1) = L.take i ++ [x] := by
  rw [List.take_add_one, hx]
  rfl
section
variable {w : World} {a : RcAt} {hp : Int} {G : Int → Option Gr}
theorem sumE_all (h : Rcs w a hp G) : sumE a.L = Gp.sum G := by rw [sumE_key, h.can, sumR_canon]
theorem pg_nn (h : Rcs w a hp G) {x : RcE} (hx : x ∈ a.L) : 0 ≤ pg x ∧ 0 ≤ x.g.m.pages ∧ 0 ≤ x.g.pg := by
  have := h.ok.ok _ x.g (h.key hx).2.2
  have h1 := this.m.p0
  have h2 := this.q0
  exact ⟨by unfold pg; omega, h1, h2⟩
theorem sumE_le (h : Rcs w a hp G) (i : Nat) : 0 ≤ sumE (a.L.take i) ∧ sumE (a.L.take i) ≤ Gp.sum G := by
  have h1 := sumE_nn (L := a.L.take i) fun x hx => (pg_nn h (List.mem_of_mem_take hx)).1
  have h2 := sumE_nn (L := a.L.drop i) fun x hx => (pg_nn h (List.mem_of_mem_drop hx)).1
  have h3 := sumE_app (a.L.take i) (a.L.drop i)
  rw [List.take_append_drop, sumE_all h] at h3
  exact ⟨h1, by omega⟩
def frR (w : World) (hp : Int) (L : List RcE) (vn vi : Value) (wr : World) : Prop := ∃ i : Nat, i ≤ L.length ∧ vi = .int .i64 i ∧ vn = .int .u32 (hp - sumE (L.take i)) ∧ Below w.heap.size w wr
set_option maxRecDepth 100000 in
set_option maxHeartbeats 4000000 in
theorem free (h : Rcs w a hp G) : Calls Tryz.prog 32 #[.pointer (some ⟨a.rb, 0, none⟩)] w fun e w' => e = .returned (.int .u32 (Gp.freeV hp G)) ∧ Below w.heap.size w w' := by
  obtain ⟨c0, c1, c2, _⟩ := h.cells
  have hl := h.len
  have H := Lib.hid h
  have HV : Hid (hp - sumE a.L = Gp.freeV hp G) := Lib.hid (by rw [sumE_all h]; rfl)
  have HR0 : Hid (frR w hp a.L (.int .u32 hp) (.int .i64 0) w) := Lib.hid ⟨0, by omega, rfl, by simp [sumE], Below.refl _ _⟩
  obtain ⟨ao, ac, hlv⟩ := h.row.form
  clear h
  go_enter Tryz.func32, Tryz.ntmps32
  go_wp2
  clear c0 c1 c2
  go_loopw [3, 4] (fun vn vi wr => frR w hp a.L vn vi wr) (fun _ vi _ => a.L.length - (intOf vi).toNat)
  case atStart => exact HR0.out
  case round =>
    clear HR0
    obtain ⟨i, hi, rfl, rfl, hb⟩ := hrel
    have HB := Lib.hid hb
    have h1 := H.out.below hb
    obtain ⟨c0, c1, c2, _⟩ := h1.cells
    rw [hlv] at c2
    by_cases hin : i < a.L.length
    · obtain ⟨x, hx⟩ : ∃ x, a.L[i]? = some x := ⟨_, List.getElem?_eq_getElem hin⟩
      obtain ⟨g, off, cap, hv, hc⟩ := h1.at' hx
      rw [hlv] at hv
      simp only [Value.slice.injEq] at hv
      obtain ⟨rfl, _, rfl⟩ := hv
      obtain ⟨x0, x1, x2, x3, x4, x5, x6⟩ := Rcs.seven hc
      have hi1 : (i : Int) < a.L.length := by omega
      obtain ⟨p0, p1, p2⟩ := pg_nn h1 (List.mem_of_getElem? hx)
      have hs0 := sumE_le h1 i
      have hs1 := sumE_le h1 (i + 1)
      have hsn : sumE (a.L.take (i + 1)) = sumE (a.L.take i) + (x.g.m.pages + x.g.pg) := by rw [take_succ hx, sumE_snoc]; rfl
      rw [hsn] at hs1
      have hft := h1.ok.fit
      have hh1 := h1.ok.h1
      obtain ⟨s, hs⟩ : ∃ s, sumE (a.L.take i) = s := ⟨_, rfl⟩
      rw [hs] at hs0 hs1 hsn ⊢
      have wr0 : IntKind.u32.wrap (hp - s - x.g.m.pages) = hp - s - x.g.m.pages := wrap32 (by omega) (by omega)
      have wr1 : IntKind.u32.wrap (hp - s - x.g.m.pages - x.g.pg) = hp - s - x.g.m.pages - x.g.pg := wrap32 (by omega) (by omega)
      have HEnd : Hid (∀ V, Below w.heap.size w V → frR w hp a.L (.int .u32 (hp - s - x.g.m.pages - x.g.pg)) (.int .i64 ((i : Int) + 1)) V) := Lib.hid fun V hV => ⟨i + 1, by omega, by go_num, by rw [hsn]; congr 1; omega, hV⟩
      clear hb h1 hx hc x0 x2 x3 x4 x6 p0 p1 p2 hs0 hs1 hsn hft hh1 hs hlv
      go_wp2
      refine B (fun V => V.cell? ⟨a.rb, 2, none⟩ = some (.slice (some ⟨g, off, none⟩) a.L.length ac) ∧ V.cell? ⟨g, off + i * 7 + 1, none⟩ = some (.int .u32 x.g.m.pages) ∧ V.cell? ⟨g, off + i * 7 + 5, none⟩ = some (.int .u32 x.g.pg)) ⟨c2, x1, x5⟩ fun wd hwd hS => ?_
      have HWd : Hid (Below w.heap.size w wd) := Lib.hid (by rw [hwd]; exact HB.out.drew)
      clear hwd c0 c1 c2 x1 x5
      refine T 0 hS ?_
      refine T 1 hS ?_
      refine T 2 hS ?_
      refine T 3 hS ?_
      refine T 4 hS ?_
      refine T 5 hS ?_
      refine T 6 hS ?_
      refine T 7 hS ?_
      refine T 8 hS ?_
      refine T 9 hS ?_
      refine T 10 hS ?_
      refine T 11 hS ?_
      refine T 12 hS ?_
      refine T 13 hS ?_
      refine T 14 hS ?_
      refine T 15 hS ?_
      refine T 16 hS ?_
      refine T 17 hS ?_
      refine T 18 hS ?_
      refine T 19 hS ?_
      refine T 20 hS ?_
      refine wpAnyH_done (by kernel_rfl) ?_ _
      clear hS
      go_wp2
      exact ⟨HEnd.out _ HWd.out, by simp [intOf]; omega⟩
    · have hi1 : ¬ (i : Int) < a.L.length := by omega
      have HT : Hid (a.L.take i = a.L) := Lib.hid (List.take_of_length_le (by omega))
      clear hb h1 hlv
      go_wp2
      go_ret
      exact ⟨by rw [← HV.out, HT.out] <;> rfl, HB.out⟩
structure RcSame (a a' : RcAt) : Prop where
  rb : a'.rb = a.rb
  hv : a'.hv = a.hv
  lv : a'.lv = a.lv
  rf : ∀ k, a'.rf k → a.rf k
theorem RcSame.refl (a : RcAt) : RcSame a a := ⟨rfl, rfl, rfl, fun _ h => h⟩
theorem same (h : Rcs w a hp G) {n : Int} {g : Option Gr} (hg : g = G n) {V : World} (hV : Below w.heap.size w V) : ∃ a', Rcs V a' hp (Gp.upd G n g) ∧ RcSame a a' ∧ Mod (fun k => a.lv.ownBlock = some k) w V := ⟨a, by rw [hg, Gp.upd_same]; exact h.below hV, RcSame.refl a, Mod.of_below hV _⟩
end
end Rc
end Go.Proofs.YtgdodbcpnmfnnaaGreat
namespace Go.Proofs.YtgdodbcpnmfnnaaGreat
open Go.RowKit
set_option linter.unusedVariables false
set_option linter.unusedSimpArgs false
structure RwV (w : World) (s : Nat) (v : Value) (n : Nat) (xs : List Value) : Prop where
  ln : xs.length = n * s
  fm : ∃ o c, v = .slice o n c ∧ Cl.At w o xs
  mx : n ≤ maxLen
namespace RwV
variable {w w' : World} {s n : Nat} {v : Value} {xs : List Value}
theorem form (h : RwV w s v n xs) : ∃ o c, v = .slice o n c := by
  obtain ⟨o, c, e, _⟩ := h.fm
  exact ⟨o, c, e⟩
theorem below (h : RwV w s v n xs) (hb : Below w.heap.size w w') : RwV w' s v n xs := by
  obtain ⟨o, c, e, ha⟩ := h.fm
  exact ⟨h.ln, ⟨o, c, e, ha.below hb⟩, h.mx⟩
theorem mod {F : Nat → Prop} (h : RwV w s v n xs) (hm : Mod F w w') (hF : ∀ k, n ≠ 0 → v.ownBlock = some k → ¬ F k) : RwV w' s v n xs := by
  obtain ⟨o, c, e, ha⟩ := h.fm
  refine ⟨h.ln, ⟨o, c, e, fun j u hu => ?_⟩, h.mx⟩
  obtain ⟨g, off, rfl, hc⟩ := ha j u hu
  have hg : g < w.heap.size := by
    unfold World.cell? at hc
    cases hq : w.heap[g]? with
    | none => simp [hq] at hc
    | some o => exact lt_of_block hq
  refine ⟨g, off, rfl, ?_⟩
  rw [World.cell?_of_block (a := ⟨g, off + j, none⟩) (w := w) (hm.block g hg (hF g (fun h0 => by
    have hl := h.ln
    rw [h0, Nat.zero_mul] at hl
    have := (List.getElem?_eq_some_iff.1 hu).1
    omega) (by rw [e]; rfl)))]
  exact hc
end RwV
theorem rw_at {w : World} {s n oc : Nat} {o : Option Addr} {xs : List Value} (h : RwV w s (.slice o n oc) n xs) : Cl.At w o xs := by
  obtain ⟨o', c, e, ha⟩ := h.fm
  simp only [Value.slice.injEq, true_and] at e
  rw [e.1]
  exact ha
theorem rw_len {w : World} {s n : Nat} {v : Value} {xs : List Value} (h : RwV w s v n xs) : n ≤ maxLen := h.mx
theorem ext_cellsR {w : World} {ao : Option Addr} {ac : Nat} {l : List (Int × Int)} (h : RwV w 2 (.slice ao l.length ac) l.length (extC l)) {i : Nat} {x : Int × Int} (hx : l[i]? = some x) : ∃ g off, ao = some ⟨g, off, none⟩ ∧ w.cell? ⟨g, off + i * 2, none⟩ = some (.int .u32 x.1) ∧ w.cell? ⟨g, off + i * 2 + 1, none⟩ = some (.int .u32 x.2) := by
  obtain ⟨e1, e2⟩ := extC_at l i x hx
  obtain ⟨g, off, rfl, h1⟩ := rw_at h _ _ e1
  obtain ⟨g', off', hgo, h2⟩ := rw_at h _ _ e2
  cases hgo
  exact ⟨g, off, rfl, h1, h2⟩
theorem u16_cellR {w : World} {ao : Option Addr} {ac : Nat} {l : List Int} (h : RwV w 1 (.slice ao l.length ac) l.length (l.map (Value.int .u16))) {i : Nat} {x : Int} (hx : l[i]? = some x) : ∃ g off, ao = some ⟨g, off, none⟩ ∧ w.cell? ⟨g, off + i, none⟩ = some (.int .u16 x) :=
  rw_at h i _ (by rw [List.getElem?_map, hx]; rfl)
theorem u32_cellR {w : World} {ao : Option Addr} {ac : Nat} {l : List Int} (h : RwV w 1 (.slice ao l.length ac) l.length (l.map (Value.int .u32))) {i : Nat} {x : Int} (hx : l[i]? = some x) : ∃ g off, ao = some ⟨g, off, none⟩ ∧ w.cell? ⟨g, off + i, none⟩ = some (.int .u32 x) :=
  rw_at h i _ (by rw [List.getElem?_map, hx]; rfl)
structure MnIn (w : World) (ev pv : Value) (m : Mn) : Prop where
  e : RwV w 2 ev m.ext.length (extC m.ext)
  p : RwV w 1 pv m.ports.length (m.ports.map (Value.int .u16))
theorem MnIn.below {w w' : World} {ev pv : Value} {m : Mn} (h : MnIn w ev pv m) (hb : Below w.heap.size w w') : MnIn w' ev pv m := ⟨h.e.below hb, h.p.below hb⟩
end Go.Proofs.YtgdodbcpnmfnnaaGreat
namespace Go.Proofs.YtgdodbcpnmfnnaaGreat
open Go.RowKit
set_option linter.unusedVariables false
set_option linter.unusedSimpArgs false
namespace Rc
theorem blocks_pos {m : Mn} (hc : Gp.checkE m = 0) {id z : Int} (hz : Gp.blocksOf m.ext id = some z) : 1 ≤ z := by
  have hm : Gp.mayM m = true := by
    unfold Gp.checkE at hc
    split at hc
    · assumption
    · cases hc
  unfold Gp.mayM at hm
  simp only [Bool.and_eq_true] at hm
  have hb := hm.1.1.1.1.1
  unfold Gp.blocksOf at hz
  cases hf : m.ext.find? (fun x => x.1 == id) with
  | none => rw [hf] at hz; cases hz
  | some x =>
    rw [hf] at hz
    cases hz
    have hx := List.mem_of_find?_eq_some hf
    have hq : m.ext.any Gp.badX = false := by simpa using hb
    rw [List.any_eq_false] at hq
    have := hq x hx
    unfold Gp.badX at this
    simp at this
    show 1 ≤ x.2
    omega
section
variable {w : World} {a : RcAt} {hp : Int} {G : Int → Option Gr}
theorem busy_yes (h : Rcs w a hp G) {m : Mn} {x : RcE} (hx : x ∈ a.L) (hb : Gp.busyO (some x.g) m = true) : Gp.busyB G m = true := by
  obtain ⟨n1, n8, hg⟩ := h.key hx
  exact Gp.busyB_yes n1 n8 (by rw [hg]; exact hb)
theorem busy_no (h : Rcs w a hp G) {m : Mn} (hb : ∀ x, x ∈ a.L → Gp.busyO (some x.g) m = false) : Gp.busyB G m = false := Gp.busyB_no fun n => by
  cases hg : G n with
  | none => rfl
  | some g =>
    obtain ⟨i, x, _, hx, _, hxg⟩ := of_some h hg
    rw [← hxg]
    exact hb x (List.mem_of_getElem? hx)
def byRel (w : World) (L : List RcE) (m : Mn) (ev pv : Value) (vi : Value) (wr : World) : Prop :=
  ∃ i : Nat, i ≤ L.length ∧ vi = .int .i64 i ∧ (∀ (k : Nat) (x : RcE), k < i → L[k]? = some x → Gp.busyO (some x.g) m = false) ∧ Below w.heap.size w wr ∧ MBx wr w.heap.size m ev pv
def beRel (V : World) (g : Gr) (m : Mn) (vi : Value) (wr : World) : Prop := ∃ i : Nat, i ≤ m.ext.length ∧ vi = .int .i64 i ∧ (∀ (k : Nat) (x : Int × Int), k < i → m.ext[k]? = some x → Gp.blocksOf g.m.ext x.1 = none) ∧ Below V.heap.size V wr
def bpRel (V : World) (g : Gr) (m : Mn) (vi : Value) (wr : World) : Prop := ∃ i : Nat, i ≤ m.ports.length ∧ vi = .int .i64 i ∧ (∀ (k : Nat) (x : Int), k < i → m.ports[k]? = some x → x ∉ g.m.ports) ∧ Below V.heap.size V wr
set_option maxRecDepth 100000 in
set_option maxHeartbeats 8000000 in
theorem busy (h : Rcs w a hp G) {m : Mn} {ev pv : Value} (hm : MnIn w ev pv m) : Calls Tryz.prog 195 #[.pointer (some ⟨a.rb, 0, none⟩), .agg (m.cells ev pv)] w fun e w' => e = .returned (.bool (Gp.busyB G m)) ∧ Below w.heap.size w w' := by
  obtain ⟨eo, ec, rfl⟩ := hm.e.form
  obtain ⟨po, pc, rfl⟩ := hm.p.form
  have hcap := rw_len hm.e
  have hcap2 := rw_len hm.p
  unfold maxLen at hcap hcap2
  have HY : Hid (∀ x, x ∈ a.L → Gp.busyO (some x.g) m = true → Gp.busyB G m = true) := Lib.hid fun x hx hb => busy_yes h hx hb
  have HN : Hid ((∀ x, x ∈ a.L → Gp.busyO (some x.g) m = false) → Gp.busyB G m = false) := Lib.hid fun hb => busy_no h hb
  have hb : Below w.heap.size w (w.alloc (.cells (m.cells (.slice eo m.ext.length ec) (.slice po m.ports.length pc)) 45)) := (Below.refl _ _).alloc (Nat.le_refl _) _
  have hk := heap_alloc_new w (.cells (m.cells (.slice eo m.ext.length ec) (.slice po m.ports.length pc)) 45)
  have H := Lib.hid fun V (hV : Below w.heap.size w V) => h.below hV
  have HMn := Lib.hid fun V (hV : Below w.heap.size w V) => hm.below hV
  have HR0 : Hid (byRel w a.L m (.slice eo m.ext.length ec) (.slice po m.ports.length pc) (.int .i64 0) (w.alloc (.cells (m.cells (.slice eo m.ext.length ec) (.slice po m.ports.length pc)) 45))) := Lib.hid ⟨0, by omega, rfl, fun k _ hk => absurd hk (Nat.not_lt_zero _), hb, hk⟩
  have hl := h.len
  obtain ⟨ao, ac, hlv⟩ := h.row.form
  have HLv := Lib.hid hlv
  unfold Mn.cells at HR0
  unfold Mn.cells
  clear h hm hb hk hlv
  go_enter Tryz.func195, Tryz.ntmps195
  go_wp2
  go_loopw [5, 6, 7] (fun vi _ _ wr => byRel w a.L m (.slice eo m.ext.length ec) (.slice po m.ports.length pc) vi wr) (fun vi _ _ _ => a.L.length - (intOf vi).toNat)
  case atStart => exact HR0.out
  case round =>
    clear HR0
    obtain ⟨i, hi, rfl, hno, hb, hbx⟩ := hrel
    generalize wr = wo at *
    have h1 := H.out wo hb
    obtain ⟨c0, c1, c2, _⟩ := h1.cells
    rw [HLv.out] at c2
    have HNo := Lib.hid hno
    have HB := Lib.hid hb
    have HBx := Lib.hid hbx
    by_cases hin : i < a.L.length
    · obtain ⟨x, hx⟩ : ∃ x, a.L[i]? = some x := ⟨_, List.getElem?_eq_getElem hin⟩
      have hi1 : (i : Int) < a.L.length := by omega
      have hxm := List.mem_of_getElem? hx
      have HX := Lib.hid (And.intro hx (And.intro hxm (And.intro (h1.key hxm).2.2 (h1.ok.may _ _ (h1.key hxm).2.2))))
      have HXf : Hid (∀ V, Below wo.heap.size wo V → ∃ g off, ao = some ⟨g, off, none⟩ ∧ V.cell? ⟨a.rb, 2, none⟩ = some (.slice (some ⟨g, off, none⟩) a.L.length ac) ∧ V.cell? ⟨g, off + i * 7 + 1, none⟩ = some (.int .u32 x.g.m.pages) ∧ V.cell? ⟨g, off + i * 7 + 2, none⟩ = some x.ev ∧ V.cell? ⟨g, off + i * 7 + 3, none⟩ = some x.pv ∧ V.cell? ⟨g, off + i * 7 + 4, none⟩ = some (.bool x.g.m.con) ∧ MnAt V x.ev x.pv x.g.m) := Lib.hid fun V hV => by
        have h2 := H.out V (below_th hb hV)
        obtain ⟨g, off, cap, hv, hc⟩ := h2.at' hx
        obtain ⟨x0, x1, x2, x3, x4, x5, x6⟩ := Rcs.seven hc
        have d2 := h2.cells.2.2.1
        rw [HLv.out] at hv d2
        simp only [Value.slice.injEq] at hv
        obtain ⟨rfl, _, rfl⟩ := hv
        exact ⟨g, off, rfl, d2, x1, x2, x3, x4, h2.mns x hxm⟩
      have HMb : Hid (∀ V, Below wo.heap.size wo V → V.cell? ⟨w.heap.size, 1, none⟩ = some (.slice eo m.ext.length ec) ∧ V.cell? ⟨w.heap.size, 2, none⟩ = some (.slice po m.ports.length pc)) := Lib.hid fun V hV => by
        obtain ⟨m0, m1, m2, m3, _⟩ := man_cells (m := m) (hbx.below hV)
        exact ⟨m1, m2⟩
      have HE0 : Hid (beRel wo x.g m (.int .i64 0) wo) := Lib.hid ⟨0, Nat.zero_le _, rfl, fun k _ hk => absurd hk (Nat.not_lt_zero _), Below.refl _ _⟩
      clear hno hb hbx h1 hx hxm
      go_wp2
      go_loopw [6] (fun vi V => beRel wo x.g m vi V) (fun vi _ => m.ext.length - (intOf vi).toNat)
      case atStart => exact HE0.out
      case round =>
        clear HE0 c0 c1 c2
        obtain ⟨k, hkl, rfl, hnk, hbk⟩ := hrel
        have HNk := Lib.hid hnk
        have HBk := Lib.hid hbk
        obtain ⟨m1, m2⟩ := HMb.out _ hbk
        clear hnk
        by_cases hkn : k < m.ext.length
        · have hk1 : (k : Int) < m.ext.length := by omega
          obtain ⟨g, off, rfl, d2, x1, x2, x3, x4, hmx⟩ := HXf.out _ hbk
          obtain ⟨eg, eoff, heo, e0, e1⟩ := ext_cellsR (HMn.out _ (below_th HB.out hbk)).e (List.getElem?_eq_getElem hkn)
          obtain ⟨z, hz⟩ : ∃ z, m.ext[k] = z := ⟨_, rfl⟩
          rw [hz] at e0 e1
          have HZ : Hid (m.ext[k]? = some z) := Lib.hid (by rw [List.getElem?_eq_getElem hkn, hz])
          subst heo
          have HMx := Lib.hid hmx
          clear hz hbk hmx
          go_wp2
          refine B (fun V => V.cell? ⟨a.rb, 2, none⟩ = some (.slice (some ⟨g, off, none⟩) a.L.length ac) ∧ V.cell? ⟨g, off + i * 7 + 1, none⟩ = some (.int .u32 x.g.m.pages) ∧ V.cell? ⟨g, off + i * 7 + 2, none⟩ = some x.ev ∧ V.cell? ⟨g, off + i * 7 + 3, none⟩ = some x.pv ∧ V.cell? ⟨g, off + i * 7 + 4, none⟩ = some (.bool x.g.m.con) ∧ V.cell? ⟨w.heap.size, 1, none⟩ = some (.slice (some ⟨eg, eoff, none⟩) m.ext.length ec) ∧ V.cell? ⟨eg, eoff + k * 2, none⟩ = some (.int .u32 z.1)) ⟨d2, x1, x2, x3, x4, m1, e0⟩ fun wd hwd hS => ?_
          have HBd : Hid (Below wo.heap.size wo wd) := Lib.hid (by rw [hwd]; exact HBk.out.drew)
          have HMd : Hid (MnAt wd x.ev x.pv x.g.m) := Lib.hid (by rw [hwd]; exact HMx.out.below (Below.refl _ _).drew)
          clear hwd d2 x1 x2 x3 x4 m1 m2 e0 e1
          refine T 0 hS ?_
          refine T 1 hS ?_
          refine T 2 hS ?_
          refine T 3 hS ?_
          refine T 4 hS ?_
          refine T 5 hS ?_
          refine T 6 hS ?_
          refine T 7 hS ?_
          refine T 8 hS ?_
          refine T 9 hS ?_
          refine T 10 hS ?_
          refine T 11 hS ?_
          refine T 12 hS ?_
          refine T 13 hS ?_
          refine U 14 fun K hK => ?_
          go_simp
          go_at_call 266
          refine (blocks HMd.out z.1).mono ?_
          rintro e w5 ⟨rfl, hb5⟩
          have hS5 := And.intro (cell_below hb5 hS.1) (And.intro (cell_below hb5 hS.2.1) (And.intro (cell_below hb5 hS.2.2.1) (And.intro (cell_below hb5 hS.2.2.2.1) (And.intro (cell_below hb5 hS.2.2.2.2.1) (And.intro (cell_below hb5 hS.2.2.2.2.2.1) (cell_below hb5 hS.2.2.2.2.2.2))))))
          have HB5 := Lib.hid (below_th HBd.out hb5)
          refine V hK hS5 ?_; clear hK K
          refine T 15 hS5 ?_
          refine wpAnyH_done (by kernel_rfl) ?_ _
          clear hS hS5 hb5
          cases hbo : Gp.blocksOf x.g.m.ext z.1 with
          | some y =>
            have hy := blocks_pos HX.out.2.2.2 hbo
            have HV : Hid (Gp.busyB G m = true) := Lib.hid (HY.out x HX.out.2.1 (by
              show (Gp.busyP x.g m || Gp.busyX x.g m) = true
              rw [Bool.or_eq_true]
              exact .inr (List.any_eq_true.2 ⟨z, List.mem_of_getElem? HZ.out, by rw [hbo]; rfl⟩)))
            have hd : decide (y > 0) = true := decide_eq_true (by omega)
            have ho : (some y).getD 0 = y := rfl
            clear hbo
            go_wp2
            go_ret
            exact ⟨by rw [HV.out]; rfl, below_th HB.out HB5.out⟩
          | none =>
            have HBo := Lib.hid hbo
            clear hbo
            have ho : (none : Option Int).getD 0 = 0 := rfl
            go_wp2
            refine ⟨⟨k + 1, by omega, by go_num, fun j y hj hy => ?_, HB5.out⟩, by simp [intOf]; omega⟩
            rcases Nat.lt_or_ge j k with q | q
            · exact HNk.out j y q hy
            · obtain rfl : j = k := by omega
              rw [HZ.out] at hy
              cases hy
              exact HBo.out
        · have hk1 : ¬ (k : Int) < m.ext.length := by omega
          have HXn : Hid (Gp.busyX x.g m = false) := Lib.hid (by
            unfold Gp.busyX
            rw [List.any_eq_false]
            intro y hy
            obtain ⟨j, hj⟩ := List.getElem?_of_mem hy
            rw [HNk.out j y (by have := (List.getElem?_eq_some_iff.1 hj).1; omega) hj]
            simp)
          clear HNk
          have HP0 : Hid (bpRel wr x.g m (.int .i64 0) wr) := Lib.hid ⟨0, Nat.zero_le _, rfl, fun k _ hk => absurd hk (Nat.not_lt_zero _), Below.refl _ _⟩
          clear hbk
          go_wp2
          generalize wr = w2 at *
          clear m1 m2 hk1 hkn
          go_loopw [7] (fun vi V => bpRel w2 x.g m vi V) (fun vi _ => m.ports.length - (intOf vi).toNat)
          case atStart => exact HP0.out
          case round =>
            clear HP0
            obtain ⟨k, hkl, rfl, hnk, hbk⟩ := hrel
            have HNk := Lib.hid hnk
            have HB32 := Lib.hid hbk
            have HB3 := Lib.hid (below_th HBk.out hbk)
            obtain ⟨m1, m2⟩ := HMb.out _ HB3.out
            clear hnk hbk
            by_cases hkn : k < m.ports.length
            · have hk1 : (k : Int) < m.ports.length := by omega
              obtain ⟨g, off, rfl, d2, x1, x2, x3, x4, hmx⟩ := HXf.out _ HB3.out
              obtain ⟨eg, eoff, heo, e0⟩ := u16_cellR (HMn.out _ (below_th HB.out HB3.out)).p (List.getElem?_eq_getElem hkn)
              obtain ⟨z, hz⟩ : ∃ z, m.ports[k] = z := ⟨_, rfl⟩
              rw [hz] at e0
              have HZ : Hid (m.ports[k]? = some z) := Lib.hid (by rw [List.getElem?_eq_getElem hkn, hz])
              subst heo
              have HMx := Lib.hid hmx
              clear hz hmx
              go_wp2
              refine B (fun V => V.cell? ⟨a.rb, 2, none⟩ = some (.slice (some ⟨g, off, none⟩) a.L.length ac) ∧ V.cell? ⟨g, off + i * 7 + 1, none⟩ = some (.int .u32 x.g.m.pages) ∧ V.cell? ⟨g, off + i * 7 + 2, none⟩ = some x.ev ∧ V.cell? ⟨g, off + i * 7 + 3, none⟩ = some x.pv ∧ V.cell? ⟨g, off + i * 7 + 4, none⟩ = some (.bool x.g.m.con) ∧ V.cell? ⟨w.heap.size, 2, none⟩ = some (.slice (some ⟨eg, eoff, none⟩) m.ports.length pc) ∧ V.cell? ⟨eg, eoff + k, none⟩ = some (.int .u16 z)) ⟨d2, x1, x2, x3, x4, m2, e0⟩ fun wd hwd hS => ?_
              have HBd : Hid (Below wo.heap.size wo wd) := Lib.hid (by rw [hwd]; exact HB3.out.drew)
              have HMd : Hid (MnAt wd x.ev x.pv x.g.m) := Lib.hid (by rw [hwd]; exact HMx.out.below (Below.refl _ _).drew)
              have HB2d : Hid (Below w2.heap.size w2 wd) := Lib.hid (by rw [hwd]; exact HB32.out.drew)
              clear hwd d2 x1 x2 x3 x4 m1 m2 e0
              refine T 0 hS ?_
              refine T 1 hS ?_
              refine T 2 hS ?_
              refine T 3 hS ?_
              refine T 4 hS ?_
              refine T 5 hS ?_
              refine T 6 hS ?_
              refine T 7 hS ?_
              refine T 8 hS ?_
              refine T 9 hS ?_
              refine T 10 hS ?_
              refine T 11 hS ?_
              refine T 12 hS ?_
              refine U 13 fun K hK => ?_
              go_simp
              go_at_call 267
              refine (hasPort HMd.out z).mono ?_
              rintro e w5 ⟨he, hb5⟩
              obtain ⟨bz, hbz⟩ : ∃ b, decide (z ∈ x.g.m.ports) = b := ⟨_, rfl⟩
              rw [hbz] at he
              subst he
              have hS5 := And.intro (cell_below hb5 hS.1) (And.intro (cell_below hb5 hS.2.1) (And.intro (cell_below hb5 hS.2.2.1) (And.intro (cell_below hb5 hS.2.2.2.1) (And.intro (cell_below hb5 hS.2.2.2.2.1) (And.intro (cell_below hb5 hS.2.2.2.2.2.1) (cell_below hb5 hS.2.2.2.2.2.2))))))
              have HB5 := Lib.hid (below_th HBd.out hb5)
              have HB52 := Lib.hid (below_th HB2d.out hb5)
              refine V hK hS5 ?_; clear hK K
              refine wpAnyH_done (by kernel_rfl) ?_ _
              clear hS hS5 hb5
              cases bz with
              | true =>
                have hz : z ∈ x.g.m.ports := of_decide_eq_true hbz
                have HV : Hid (Gp.busyB G m = true) := Lib.hid (HY.out x HX.out.2.1 (by
                  show (Gp.busyP x.g m || Gp.busyX x.g m) = true
                  rw [Bool.or_eq_true]
                  exact .inl (List.any_eq_true.2 ⟨z, List.mem_of_getElem? HZ.out, by simpa using hz⟩)))
                clear hz hbz
                go_wp2
                go_ret
                exact ⟨by rw [HV.out]; rfl, below_th HB.out HB5.out⟩
              | false =>
                have HBo := Lib.hid (of_decide_eq_false hbz)
                clear hbz
                go_wp2
                refine ⟨⟨k + 1, by omega, by go_num, fun j y hj hy => ?_, HB52.out⟩, by simp [intOf]; omega⟩
                rcases Nat.lt_or_ge j k with q | q
                · exact HNk.out j y q hy
                · obtain rfl : j = k := by omega
                  rw [HZ.out] at hy
                  cases hy
                  exact HBo.out
            · have hk1 : ¬ (k : Int) < m.ports.length := by omega
              have HPn : Hid (Gp.busyP x.g m = false) := Lib.hid (by
                unfold Gp.busyP
                rw [List.any_eq_false]
                intro y hy
                obtain ⟨j, hj⟩ := List.getElem?_of_mem hy
                simpa using HNk.out j y (by have := (List.getElem?_eq_some_iff.1 hj).1; omega) hj)
              have HEnd : Hid (byRel w a.L m (.slice eo m.ext.length ec) (.slice po m.ports.length pc) (.int .i64 ((i : Int) + 1)) wr) := Lib.hid ⟨i + 1, by omega, by go_num, fun k' y hk' hy => by
                rcases Nat.lt_or_ge k' i with q | q
                · exact HNo.out k' y q hy
                · obtain rfl : k' = i := by omega
                  rw [HX.out.1] at hy
                  cases hy
                  show (Gp.busyP x.g m || Gp.busyX x.g m) = false
                  rw [HPn.out, HXn.out]
                  rfl, below_th HB.out HB3.out, HBx.out.below HB3.out⟩
              go_wp2
              exact ⟨HEnd.out, by simp [intOf]; omega⟩
    · have hi1 : ¬ (i : Int) < a.L.length := by omega
      have HV : Hid (Gp.busyB G m = false) := Lib.hid (HN.out fun x hx => by
        obtain ⟨k, hk⟩ := List.getElem?_of_mem hx
        exact HNo.out k x (by have := (List.getElem?_eq_some_iff.1 hk).1; omega) hk)
      clear hno hb hbx h1
      go_wp2
      go_ret
      exact ⟨by rw [HV.out]; rfl, HB.out⟩
end
end Rc
end Go.Proofs.YtgdodbcpnmfnnaaGreat
namespace Go.Proofs.YtgdodbcpnmfnnaaGreat
open Go.RowKit
set_option linter.unusedVariables false
set_option linter.unusedSimpArgs false
namespace R11
theorem app_ext {W : World} {a : Option Addr} {n cap : Nat} {xs : List Value} (hl : xs.length = n * 2) (hc : Cl.At W a xs) (hs : n ≤ 2000000) (h1 : ∀ u, u ∈ xs → u.oneCell' = true) :
    ∃ o c W', (Builtin.append_ #[42, 42] 42 #[.slice none 0 0, .slice a n cap]).run Tryz.prog W = .ok (.slice o n c) W' ∧ SlV W' 318 2 (.slice o n c) n xs ∧ Below W.heap.size W W' ∧ (∀ b, (Value.slice o n c).ownBlock = some b → W.heap.size ≤ b ∧ b < W'.heap.size) := by
  obtain ⟨i0, hi0, hz0, hz1, hz2⟩ := info_parts Cl.info_ext
  by_cases h0 : n = 0
  · subst h0
    obtain rfl : xs = [] := List.length_eq_zero_iff.1 (by omega)
    refine ⟨none, 0, W, ?_, SlV.nil _ _ _, Below.refl _ _, fun b hb => (nomatch hb)⟩
    have hu := Tryz.underlying42
    cases a <;> go_simp
  · obtain ⟨u, hu⟩ : ∃ u, xs[0]? = some u := ⟨_, List.getElem?_eq_getElem (by omega)⟩
    obtain ⟨g, off, rfl, _⟩ := hc 0 u hu
    obtain ⟨v', w', hrun, r1, r2, r3⟩ := (SlV.nil W 318 2).append (P := Tryz.prog) (t := 42) (bytes := 8) 42 i0 _ Tryz.underlying42 hi0 hz0 hz1 hz2 rfl (by omega) ⟨g, off, none⟩ n cap xs (by omega) hl (fun j u hu => by
      obtain ⟨g', o', e, hcc⟩ := hc j u hu
      simp only [Option.some.injEq, Addr.mk.injEq, and_true] at e
      obtain ⟨rfl, rfl⟩ := e
      rw [Addr.add_lit]
      exact hcc) h1 (by unfold maxLen; omega) (by omega)
    rw [Nat.zero_add, List.nil_append] at r1
    obtain ⟨o, c, rfl⟩ := r1.form
    refine ⟨o, c, w', hrun, r1, (r2.mono fun k _ g => (nomatch g) : Mod (fun _ => False) W w').toBelow, fun b hb => ?_⟩
    rcases r3 with g | ⟨k, g, gk⟩
    · rw [g] at hb; exact (nomatch hb)
    · rw [g] at hb
      cases hb
      obtain ⟨q, hq, hql⟩ := r1.lt (by omega)
      rw [g] at hq
      cases hq
      exact ⟨gk, hql⟩
theorem app_u16 {W : World} {a : Option Addr} {n cap : Nat} {xs : List Value} (hl : xs.length = n * 1) (hc : Cl.At W a xs) (hs : n ≤ 2000000) (h1 : ∀ u, u ∈ xs → u.oneCell' = true) :
    ∃ o c W', (Builtin.append_ #[43, 43] 43 #[.slice none 0 0, .slice a n cap]).run Tryz.prog W = .ok (.slice o n c) W' ∧ SlV W' 22 1 (.slice o n c) n xs ∧ Below W.heap.size W W' ∧ (∀ b, (Value.slice o n c).ownBlock = some b → W.heap.size ≤ b ∧ b < W'.heap.size) := by
  obtain ⟨i0, hi0, hz0, hz1, hz2⟩ := info_parts Cl.info_u16
  by_cases h0 : n = 0
  · subst h0
    obtain rfl : xs = [] := List.length_eq_zero_iff.1 (by omega)
    refine ⟨none, 0, W, ?_, SlV.nil _ _ _, Below.refl _ _, fun b hb => (nomatch hb)⟩
    have hu := Tryz.underlying43
    cases a <;> go_simp
  · obtain ⟨u, hu⟩ : ∃ u, xs[0]? = some u := ⟨_, List.getElem?_eq_getElem (by omega)⟩
    obtain ⟨g, off, rfl, _⟩ := hc 0 u hu
    obtain ⟨v', w', hrun, r1, r2, r3⟩ := (SlV.nil W 22 1).append (P := Tryz.prog) (t := 43) (bytes := 2) 43 i0 _ Tryz.underlying43 hi0 hz0 hz1 hz2 rfl (by omega) ⟨g, off, none⟩ n cap xs (by omega) hl (fun j u hu => by
      obtain ⟨g', o', e, hcc⟩ := hc j u hu
      simp only [Option.some.injEq, Addr.mk.injEq, and_true] at e
      obtain ⟨rfl, rfl⟩ := e
      rw [Addr.add_lit]
      exact hcc) h1 (by unfold maxLen; omega) (by omega)
    rw [Nat.zero_add, List.nil_append] at r1
    obtain ⟨o, c, rfl⟩ := r1.form
    refine ⟨o, c, w', hrun, r1, (r2.mono fun k _ g => (nomatch g) : Mod (fun _ => False) W w').toBelow, fun b hb => ?_⟩
    rcases r3 with g | ⟨k, g, gk⟩
    · rw [g] at hb; exact (nomatch hb)
    · rw [g] at hb
      cases hb
      obtain ⟨q, hq, hql⟩ := r1.lt (by omega)
      rw [g] at hq
      cases hq
      exact ⟨gk, hql⟩
theorem wpList_append_run {P : Program} {w w' : World} {ops : Array Oper} {rest : List Oper} {o : Oper} {ac : Act} {Q : Exit → Act → World → Prop} (hgd : o.guard = none) (sl x : Operand) (t : TypeId)
    (ho : o.op = .call { callee := .builtin .append, args := #[sl, x], argTypes := #[t, t] }) {v y v' : Value} (hs : ac.eval sl = v) (hx : ac.eval x = y) (hrun : (Builtin.append_ #[t, t] o.type #[v, y]).run P w = .ok v' w')
    (hK : wpList P ops Q rest (ac.put o.dst v') w') : wpList P ops Q (o :: rest) ac w := by
  refine wpList_plain hgd fun K hK' => ?_
  unfold Oper.wp
  simp [execOp, ho, resolve, invoke, builtin, hs, hx, hrun, Result.andThen]
  exact hK' _ _ hK
def CopyPost (w : World) (m : Mn) (e : Ending) (w' : World) : Prop :=
  ∃ ev pv, e = .returned (.agg (m.cells ev pv)) ∧ MnAt w' ev pv m ∧ (∀ k, ev.ownBlock = some k ∨ pv.ownBlock = some k → w.heap.size ≤ k ∧ k < w'.heap.size) ∧ Below w.heap.size w w'
set_option maxRecDepth 100000 in
set_option maxHeartbeats 8000000 in
theorem copy {w : World} {m : Mn} {ev pv : Value} (hm : MnIn w ev pv m) (he : m.ext.length ≤ 2000000) (hp : m.ports.length ≤ 2000000) :
    Calls Tryz.prog 84 #[.agg (m.cells ev pv)] w (CopyPost w m) := by
  obtain ⟨eo, ec, rfl⟩ := hm.e.form
  obtain ⟨po, pc, rfl⟩ := hm.p.form
  have hb0 : Below w.heap.size w (w.alloc (.cells (m.cells (.slice eo m.ext.length ec) (.slice po m.ports.length pc)) 45)) := (Below.refl _ _).alloc (Nat.le_refl _) _
  have hb1 := hb0.alloc hb0.size (.cells #[.int .u32 0, .slice none 0 0, .slice none 0 0, .bool false] 45)
  have hk0 : ((w.alloc (.cells (m.cells (.slice eo m.ext.length ec) (.slice po m.ports.length pc)) 45)).alloc (.cells #[.int .u32 0, .slice none 0 0, .slice none 0 0, .bool false] 45)).heap[w.heap.size]? = some (.cells (m.cells (.slice eo m.ext.length ec) (.slice po m.ports.length pc)) 45) := (Below.heap_alloc _ _ _ (lt_of_block (heap_alloc_new w _))).trans (heap_alloc_new w _)
  have hk1 := heap_alloc_new (w.alloc (.cells (m.cells (.slice eo m.ext.length ec) (.slice po m.ports.length pc)) 45)) (.cells #[.int .u32 0, .slice none 0 0, .slice none 0 0, .bool false] 45)
  rw [show (w.alloc (.cells (m.cells (.slice eo m.ext.length ec) (.slice po m.ports.length pc)) 45)).heap.size = w.heap.size + 1 by simp] at hk1
  have HM := Lib.hid fun V (hV : Below w.heap.size w V) => hm.below hV
  unfold Mn.cells at *
  obtain ⟨W2, hW2⟩ : ∃ W2, W2 = (w.alloc (.cells #[.int .u32 m.pages, .slice eo m.ext.length ec, .slice po m.ports.length pc, .bool m.con] 45)).alloc (.cells #[.int .u32 0, .slice none 0 0, .slice none 0 0, .bool false] 45) := ⟨_, rfl⟩
  rw [← hW2] at hb1 hk0 hk1
  obtain ⟨o1, oc1, W3, hr1, hs1, hb3, ho1⟩ := app_ext (cap := ec) (extC_length _) (rw_at (HM.out W2 hb1).e) he (one_ext _)
  have hk0' := (hb3.block _ (lt_of_block hk0)).trans hk0
  have hk1' := (hb3.block _ (lt_of_block hk1)).trans hk1
  have hbw3 := below_th hb1 hb3
  have hz2 := hb3.size
  have l0 := lt_of_block hk0
  have l1 := lt_of_block hk1
  have hm4 : Mod (fun i => i = w.heap.size) W3 (W3.setCell ⟨w.heap.size, 1, none⟩ (.slice o1 m.ext.length oc1)) := Mod.setCell (F := fun i => i = w.heap.size) (Mod.refl _ _) ⟨w.heap.size, 1, none⟩ (.inl rfl) _
  have hk04 := heap_setCell_same W3 w.heap.size 1 _ _ (.slice o1 m.ext.length oc1) hk0'
  have hk14 := (hm4.block _ (lt_of_block hk1') (by omega)).trans hk1'
  have hbw4 := Mod.below hbw3 hm4 hbw3.size fun k _ hk => Nat.le_of_eq hk.symm
  have hz4 : (W3.setCell ⟨w.heap.size, 1, none⟩ (.slice o1 m.ext.length oc1)).heap.size = W3.heap.size := by simp [World.setCell]
  have hs14 := hs1.mod hm4 fun k hk e => by have := (ho1 k hk).1; omega
  obtain ⟨W4, hW4⟩ : ∃ W4, W4 = W3.setCell ⟨w.heap.size, 1, none⟩ (.slice o1 m.ext.length oc1) := ⟨_, rfl⟩
  rw [← hW4] at hk04 hk14 hbw4 hz4 hs14
  obtain ⟨o2, oc2, W5, hr2, hs2, hb5, ho2⟩ := app_u16 (cap := pc) (by simp) (rw_at (HM.out W4 hbw4).p) hp (one_u16 _)
  have hk05 := (hb5.block _ (lt_of_block hk04)).trans hk04
  have hk15 := (hb5.block _ (lt_of_block hk14)).trans hk14
  obtain ⟨c0, c1, c2, c3, cf⟩ := man_cells hk0
  obtain ⟨d0, d1, d2, d3, df⟩ := man_cells (m := m) (ev := .slice eo m.ext.length ec) (pv := .slice po m.ports.length pc) hk0'
  obtain ⟨e0, e1, e2, e3, ef⟩ := man_cells (m := m) (ev := .slice o1 m.ext.length oc1) (pv := .slice po m.ports.length pc) hk04
  obtain ⟨f0, f1, f2, f3, ff⟩ := man_cells (m := m) (ev := .slice o1 m.ext.length oc1) (pv := .slice po m.ports.length pc) hk05
  have hl5 := lt_of_block hk15
  have hm6 : Mod (fun i => i = w.heap.size) W5 (W5.setCell ⟨w.heap.size, 2, none⟩ (.slice o2 m.ports.length oc2)) := Mod.setCell (F := fun i => i = w.heap.size) (Mod.refl _ _) ⟨w.heap.size, 2, none⟩ (.inl rfl) _
  have hk16 := (hm6.block _ hl5 (by omega)).trans hk15
  have g0 : (W5.setCell ⟨w.heap.size, 2, none⟩ (.slice o2 m.ports.length oc2)).cell? ⟨w.heap.size + 1, 0, none⟩ = some (.int .u32 0) := by unfold World.cell?; rw [hk16]; rfl
  have g1 : (W5.setCell ⟨w.heap.size, 2, none⟩ (.slice o2 m.ports.length oc2)).cell? ⟨w.heap.size + 1, 1, none⟩ = some (.slice none 0 0) := by unfold World.cell?; rw [hk16]; rfl
  have g2 : (W5.setCell ⟨w.heap.size, 2, none⟩ (.slice o2 m.ports.length oc2)).cell? ⟨w.heap.size + 1, 2, none⟩ = some (.slice none 0 0) := by unfold World.cell?; rw [hk16]; rfl
  have g3 : (W5.setCell ⟨w.heap.size, 2, none⟩ (.slice o2 m.ports.length oc2)).cell? ⟨w.heap.size + 1, 3, none⟩ = some (.bool false) := by unfold World.cell?; rw [hk16]; rfl
  have gf : ∀ i, (W5.setCell ⟨w.heap.size, 2, none⟩ (.slice o2 m.ports.length oc2)).frozen? ⟨w.heap.size + 1, i, none⟩ = false := fun i => by unfold World.frozen?; rw [hk16]; simp
  have hz6 : (W5.setCell ⟨w.heap.size, 2, none⟩ (.slice o2 m.ports.length oc2)).heap.size = W5.heap.size := by simp [World.setCell]
  have HG := Lib.hid (And.intro hk16 (And.intro hm6 hz6))
  clear hk16 hm6 hz6 hl5
  rw [hW2] at hr1 c0 c1 c2 c3
  rw [hW4] at hr2 e0 e1 e2 e3
  have H1 := Lib.hid hr1
  have H2 := Lib.hid hr2
  have df1 := df 1
  have ff2 := ff 2
  have HK := Lib.hid (And.intro hk05 hk15)
  have HS := Lib.hid (And.intro hs14 (And.intro hs2 (And.intro ho1 ho2)))
  have HZ := Lib.hid (And.intro hb5 (And.intro hbw4 (And.intro hz4 (And.intro hz2 (And.intro l0 l1)))))
  clear hr1 hr2 hk0 hk1 hk0' hk1' hk04 hk14 hk05 hk15 hs1 hs14 hs2 ho1 ho2 hb0 hb1 hb3 hb5 hbw3 hbw4 hm4 hz2 hz4 l0 l1 cf df ef ff HM hm he hp
  go_enter Tryz.func84, Tryz.ntmps84
  go_wp2_with (at_builtin; first | refine wpList_append_run rfl _ _ _ rfl rfl rfl H1.out ?_ | refine wpList_append_run rfl _ _ _ rfl rfl rfl H2.out ?_)
  clear c0 c1 c2 c3 d0 d1 d2 d3 e0 e1 e2 e3 f0 f1 f2 f3 g0 g1 g2 g3 gf df1 ff2
  obtain ⟨hk16, hm6, hz6⟩ := HG.out
  have k1 := heap_setCell_same _ (w.heap.size + 1) 3 _ _ (.bool m.con) (heap_setCell_same _ (w.heap.size + 1) 2 _ _ (.slice o2 m.ports.length oc2) (heap_setCell_same _ (w.heap.size + 1) 1 _ _ (.slice o1 m.ext.length oc1) (heap_setCell_same _ (w.heap.size + 1) 0 _ _ (.int .u32 m.pages) hk16)))
  have hm7 : Mod (fun i => i = w.heap.size + 1) (W5.setCell ⟨w.heap.size, 2, none⟩ (.slice o2 m.ports.length oc2)) (((((W5.setCell ⟨w.heap.size, 2, none⟩ (.slice o2 m.ports.length oc2)).setCell ⟨w.heap.size + 1, 0, none⟩ (.int .u32 m.pages)).setCell ⟨w.heap.size + 1, 1, none⟩ (.slice o1 m.ext.length oc1)).setCell ⟨w.heap.size + 1, 2, none⟩ (.slice o2 m.ports.length oc2)).setCell ⟨w.heap.size + 1, 3, none⟩ (.bool m.con)) :=
    Mod.setCell (F := fun i => i = w.heap.size + 1) (Mod.setCell (F := fun i => i = w.heap.size + 1) (Mod.setCell (F := fun i => i = w.heap.size + 1) (Mod.setCell (F := fun i => i = w.heap.size + 1) (Mod.refl _ _) ⟨w.heap.size + 1, 0, none⟩ (.inl rfl) _) ⟨w.heap.size + 1, 1, none⟩ (.inl rfl) _) ⟨w.heap.size + 1, 2, none⟩ (.inl rfl) _) ⟨w.heap.size + 1, 3, none⟩ (.inl rfl) _
  generalize (((((W5.setCell ⟨w.heap.size, 2, none⟩ (.slice o2 m.ports.length oc2)).setCell ⟨w.heap.size + 1, 0, none⟩ (.int .u32 m.pages)).setCell ⟨w.heap.size + 1, 1, none⟩ (.slice o1 m.ext.length oc1)).setCell ⟨w.heap.size + 1, 2, none⟩ (.slice o2 m.ports.length oc2)).setCell ⟨w.heap.size + 1, 3, none⟩ (.bool m.con)) = W7 at *
  obtain ⟨q0, q1, q2, q3, _⟩ := man_cells (m := m) (ev := .slice o1 m.ext.length oc1) (pv := .slice o2 m.ports.length oc2) k1
  obtain ⟨hs14, hs2, ho1, ho2⟩ := HS.out
  obtain ⟨hb5, hbw4, hz4, hz2, l0, l1⟩ := HZ.out
  have z5 := hb5.size
  have z7 := hm7.size
  have hpost : CopyPost w m (.returned (.agg #[.int .u32 m.pages, .slice o1 m.ext.length oc1, .slice o2 m.ports.length oc2, .bool m.con])) W7 := by
    refine ⟨.slice o1 m.ext.length oc1, .slice o2 m.ports.length oc2, rfl, ⟨((hs14.below hb5).mod hm6 fun k hk e => ?_).mod hm7 fun k hk e => ?_, (hs2.mod hm6 fun k hk e => ?_).mod hm7 fun k hk e => ?_⟩, fun k hk => ?_, Mod.below (Mod.below (below_th hbw4 hb5) hm6 (below_th hbw4 hb5).size fun k _ hk => Nat.le_of_eq hk.symm) hm7 (by omega) fun k _ hk => by omega⟩
    · have := (ho1 k hk).1; omega
    · have := (ho1 k hk).1; omega
    · have := (ho2 k hk).1; omega
    · have := (ho2 k hk).1; omega
    · rcases hk with hk | hk
      · have := ho1 k hk; omega
      · have := ho2 k hk; omega
  clear hs14 hs2 ho1 ho2 hb5 hbw4 hm6 hm7 k1 hk16
  exact bodyPost_ret (v := .agg #[.int .u32 m.pages, .slice o1 m.ext.length oc1, .slice o2 m.ports.length oc2, .bool m.con]) (by simp [results, Tryz.results84, go_sem, *]) rfl hpost
end R11
end Go.Proofs.YtgdodbcpnmfnnaaGreat
