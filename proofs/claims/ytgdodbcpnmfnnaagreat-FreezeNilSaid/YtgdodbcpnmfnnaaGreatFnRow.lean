/- Row, MayG, R19E, R19F, RnP, R20, R22 in one text. -/
import Derived.Test.YtgdodbcpnmfnnaaGreatFnGraG
import Derived.Test.YtgdodbcpnmfnnaaGreatFnEnvN
import Derived.BigQuiet
import Derived.Test.YtgdodbcpnmfnnaaGreatFnGrantG
namespace Go.Proofs.YtgdodbcpnmfnnaaGreat
open Go.RowKit
set_option linter.unusedVariables false
set_option linter.unusedSimpArgs false
namespace Rw
section
variable {W : World} {t e : TypeId} {i0 : TypeInfo} {z : Value} {s bytes : Nat}
def None (t : TypeId) : Prop := ∀ (W : World) (o : Option Addr) (n c : Nat) (a : Option Addr) (cap : Nat), n ≤ c → (Builtin.append_ #[t, t] t #[.slice o n c, .slice a 0 cap]).run Tryz.prog W = .ok (.slice o n c) W
theorem none_gr : None 199 := fun W o n c a cap hnc => by
  have hu := Tryz.underlying199
  cases a <;> cases o <;> go_simp
theorem _root_.Go.Proofs.YtgdodbcpnmfnnaaGreat.SlV.ncap {w : World} {e : TypeId} {s n c : Nat} {o : Option Addr} {xs : List Value} (h : SlV w e s (.slice o n c) n xs) : n ≤ c := by
  rcases h.2 with ⟨h0, _⟩ | ⟨g, off, cap, cur, hv, hg, h1, _⟩
  · omega
  · cases hv
    omega
theorem app (hno : None t) (ht : Tryz.prog.underlying t = some (.slice e)) (hi : Tryz.prog.info? e = some i0) (hz : i0.zero = some z) (hsz : i0.size = s) (hby : i0.bytes = bytes) (hzs : z.cells.size = s) (hs0 : 0 < s) (hb8 : bytes ≤ 1000)
    {o : Option Addr} {n c : Nat} {xs : List Value} (h : SlV W e s (.slice o n c) n xs) {a : Option Addr} {m cap : Nat} {ys : List Value} (hl : ys.length = m * s) (hc : Cl.At W a ys) (hn : n + m ≤ 2000000) (h1 : ∀ u, u ∈ ys → u.oneCell' = true) :
    ∃ o' c' W', (Builtin.append_ #[t, t] t #[.slice o n c, .slice a m cap]).run Tryz.prog W = .ok (.slice o' (n + m) c') W' ∧ SlV W' e s (.slice o' (n + m) c') (n + m) (xs ++ ys) ∧ Mod (fun k => (Value.slice o n c).ownBlock = some k) W W' ∧ ((Value.slice o' (n + m) c').ownBlock = (Value.slice o n c).ownBlock ∨ ∃ k, (Value.slice o' (n + m) c').ownBlock = some k ∧ W.heap.size ≤ k ∧ k < W'.heap.size) := by
  by_cases h0 : m = 0
  · subst h0
    obtain rfl : ys = [] := List.length_eq_zero_iff.1 (by omega)
    exact ⟨o, c, W, hno W o n c a cap h.ncap, by rw [List.append_nil]; exact h, Mod.refl _ _, .inl rfl⟩
  · have hm : 0 < m := by omega
    have hms : 0 < m * s := Nat.mul_pos hm hs0
    obtain ⟨u, hu⟩ : ∃ u, ys[0]? = some u := ⟨_, List.getElem?_eq_getElem (by omega)⟩
    obtain ⟨g, off, rfl, _⟩ := hc 0 u hu
    have hbb : (n + m) * bytes ≤ 140737488355328 := Nat.le_trans (Nat.mul_le_mul (show n + m ≤ 2000000 from hn) hb8) (by decide)
    obtain ⟨v', w', hrun, r1, r2, r3⟩ := h.append (P := Tryz.prog) (t := t) (bytes := bytes) t i0 z ht hi hz hsz hby hzs hs0 ⟨g, off, none⟩ m cap ys hm hl (fun j u hu => by
      obtain ⟨g', o', e', hcc⟩ := hc j u hu
      simp only [Option.some.injEq, Addr.mk.injEq, and_true] at e'
      obtain ⟨rfl, rfl⟩ := e'
      rw [Addr.add_lit]
      exact hcc) h1 (by unfold maxLen; omega) hbb
    obtain ⟨o', c', rfl⟩ := r1.form
    refine ⟨o', c', w', hrun, r1, r2, ?_⟩
    rcases r3 with q | ⟨k, q, qk⟩
    · exact .inl q
    · refine .inr ⟨k, q, qk, ?_⟩
      obtain ⟨k', hk', hkl⟩ := r1.lt (by omega)
      rw [q] at hk'
      cases hk'
      exact hkl
theorem at_part {o : Option Addr} {n c : Nat} {xs : List Value} (h : SlV W e s (.slice o n c) n xs) {g off : Nat} (ho : o = some ⟨g, off, none⟩) (i j : Nat) (hij : i ≤ j) (hj : j ≤ n) : Cl.At W (some ⟨g, off + i * s, none⟩) ((xs.drop (i * s)).take ((j - i) * s)) := fun k u hu => by
  have hk := (List.getElem?_eq_some_iff.1 hu).1
  have hkl : k < (j - i) * s := by rw [List.length_take] at hk; omega
  rw [List.getElem?_take_of_lt hkl, List.getElem?_drop] at hu
  refine ⟨g, off + i * s, rfl, ?_⟩
  subst ho
  have hb : i * s + k < n * s := by
    have h2 : (j - i) * s = j * s - i * s := Nat.sub_mul ..
    have h3 : j * s ≤ n * s := Nat.mul_le_mul_right _ hj
    omega
  rw [Nat.add_assoc, h.cell (i * s + k) hb]
  exact hu
end
theorem step_run {P : Program} {w w' : World} {ops : Array Oper} {o : Oper} {ac : Act} {K : Act → World → Prop} {Q : Exit → Act → World → Prop} {E : Prop} (hgd : o.guard = none) (sl x : Operand) (t : TypeId)
    (ho : o.op = .call { callee := .builtin .append, args := #[sl, x], argTypes := #[t, t] }) {v y v' : Value} (hs : ac.eval sl = v) (hx : ac.eval x = y) (hrun : (Builtin.append_ #[t, t] o.type #[v, y]).run P w = .ok v' w')
    (hK : K (ac.put o.dst v') w') : if Region.wanted o (yielded ops ac.tmps) = true then Oper.wp P o ac w K Q else E := by
  have hw : Region.wanted o (yielded ops ac.tmps) = true := by simp [Region.wanted, hgd]
  rw [if_pos hw]
  unfold Oper.wp
  simp [execOp, ho, resolve, invoke, builtin, hs, hx, hrun, Result.andThen]
  exact hK
end Rw
end Go.Proofs.YtgdodbcpnmfnnaaGreat
namespace Go.Proofs.YtgdodbcpnmfnnaaGreat
open Go.RowKit
set_option linter.unusedVariables false
set_option linter.unusedSimpArgs false
namespace R11
theorem drewN_below {B : Nat} {a w : World} (h : Below B a w) (n : Nat) : Below B a (w.drewN n) := h.trans ⟨rfl, rfl, rfl, Nat.le_refl _, fun _ _ => rfl⟩
def eOk (l : List (Int × Int)) (k : Nat) : Prop := ∀ x, l[k]? = some x → Gp.badX x = false ∧ ∀ y, 0 < k → l[k - 1]? = some y → y.1 < x.1
def pOk (l : List Int) (k : Nat) : Prop := ∀ x, l[k]? = some x → x ≠ 0 ∧ ∀ y, 0 < k → l[k - 1]? = some y → y < x
def eRel (w : World) (m : Mn) (vi : Value) (wr : World) : Prop := ∃ i : Nat, i ≤ m.ext.length ∧ vi = .int .i64 i ∧ (∀ k, k < i → eOk m.ext k) ∧ Below w.heap.size w wr
def pRel (w : World) (m : Mn) (vi : Value) (wr : World) : Prop := ∃ i : Nat, i ≤ m.ports.length ∧ vi = .int .i64 i ∧ (∀ k, k < i → pOk m.ports k) ∧ Below w.heap.size w wr
theorem may_ext {m : Mn} {k : Nat} (h : ¬ eOk m.ext k) : Gp.mayM m = false := by
  cases hm : Gp.mayM m with
  | false => rfl
  | true =>
    exfalso
    unfold Gp.mayM at hm
    simp only [Bool.and_eq_true, Bool.not_eq_true'] at hm
    refine h fun x hx => ⟨?_, fun y hk hy => ?_⟩
    · have := hm.1.1.1.1.1
      rw [List.any_eq_false] at this
      simpa using this x (List.mem_of_getElem? hx)
    · have := (Gp.risesB_iff _ m.ext).1 hm.1.1.1.1.2 (k - 1) y x hy (by rw [show k - 1 + 1 = k by omega]; exact hx)
      simpa using this
theorem may_port {m : Mn} {k : Nat} (h : ¬ pOk m.ports k) : Gp.mayM m = false := by
  cases hm : Gp.mayM m with
  | false => rfl
  | true =>
    exfalso
    unfold Gp.mayM at hm
    simp only [Bool.and_eq_true, Bool.not_eq_true'] at hm
    refine h fun x hx => ⟨fun e => ?_, fun y hk hy => ?_⟩
    · have := hm.1.1.2
      simp at this
      exact this (e ▸ List.mem_of_getElem? hx)
    · have := (Gp.risesB_iff _ m.ports).1 hm.1.1.1.2 (k - 1) y x hy (by rw [show k - 1 + 1 = k by omega]; exact hx)
      simpa using this
theorem may_all {m : Mn} (h1 : ∀ k, k < m.ext.length → eOk m.ext k) (h2 : ∀ k, k < m.ports.length → pOk m.ports k) : Gp.mayM m = (decide (m.pages ≤ 1024) && decide (m.ports.length ≤ 16)) := by
  unfold Gp.mayM
  have a1 : m.ext.any Gp.badX = false := by
    rw [List.any_eq_false]
    intro x hx
    obtain ⟨k, hk⟩ := List.getElem?_of_mem hx
    have := (h1 k (List.getElem?_eq_some_iff.1 hk).1 x hk).1
    simp [this]
  have a2 : Gp.risesB (fun a b : Int × Int => decide (a.1 < b.1)) m.ext = true := (Gp.risesB_iff _ _).2 fun k x y hx hy => by
    have := (h1 (k + 1) (List.getElem?_eq_some_iff.1 hy).1 y hy).2 x (by omega) hx
    simpa using this
  have a3 : Gp.risesB (fun a b : Int => decide (a < b)) m.ports = true := (Gp.risesB_iff _ _).2 fun k x y hx hy => by
    have := (h2 (k + 1) (List.getElem?_eq_some_iff.1 hy).1 y hy).2 x (by omega) hx
    simpa using this
  have a4 : decide ((0 : Int) ∈ m.ports) = false := by
    rw [decide_eq_false_iff_not]
    intro hx
    obtain ⟨k, hk⟩ := List.getElem?_of_mem hx
    exact (h2 k (List.getElem?_eq_some_iff.1 hk).1 0 hk).1 rfl
  rw [a1, a2, a3, a4]
  simp [Bool.and_comm]
set_option maxRecDepth 100000 in
set_option maxHeartbeats 16000000 in
theorem may {w : World} {m : Mn} {ev pv : Value} (hm : MnIn w ev pv m) (hok : m.ok) : Calls Tryz.prog 194 #[.agg (m.cells ev pv)] w fun e w' => e = .returned (.bool (Gp.mayM m)) ∧ Below w.heap.size w w' := by
  obtain ⟨eo, ec, rfl⟩ := hm.e.form
  obtain ⟨po, pc, rfl⟩ := hm.p.form
  have hel := rw_len hm.e
  have hpl := rw_len hm.p
  unfold maxLen at hel hpl
  have hb := (Below.refl w.heap.size w).alloc (Nat.le_refl _) (.cells (m.cells (.slice eo m.ext.length ec) (.slice po m.ports.length pc)) 45)
  have hblk := heap_alloc_new w (.cells (m.cells (.slice eo m.ext.length ec) (.slice po m.ports.length pc)) 45)
  have HM := Lib.hid fun V (hV : Below w.heap.size w V) => hm.below hV
  have HOk := Lib.hid hok
  unfold Mn.cells at *
  have HB := Lib.hid hb
  have HC := Lib.hid fun V (hV : Below (w.alloc (.cells #[.int .u32 m.pages, .slice eo m.ext.length ec, .slice po m.ports.length pc, .bool m.con] 45)).heap.size (w.alloc (.cells #[.int .u32 m.pages, .slice eo m.ext.length ec, .slice po m.ports.length pc, .bool m.con] 45)) V) => man_cells (m := m) ((hV.block _ (lt_of_block hblk)).trans hblk)
  have HR0 : Hid (eRel (w.alloc (.cells #[.int .u32 m.pages, .slice eo m.ext.length ec, .slice po m.ports.length pc, .bool m.con] 45)) m (.int .i64 0) (w.alloc (.cells #[.int .u32 m.pages, .slice eo m.ext.length ec, .slice po m.ports.length pc, .bool m.con] 45))) := Lib.hid ⟨0, by omega, rfl, fun k hk => absurd hk (Nat.not_lt_zero _), Below.refl _ _⟩
  have HFin : Hid (∀ V b, Gp.mayM m = b → Below (w.alloc (.cells #[.int .u32 m.pages, .slice eo m.ext.length ec, .slice po m.ports.length pc, .bool m.con] 45)).heap.size (w.alloc (.cells #[.int .u32 m.pages, .slice eo m.ext.length ec, .slice po m.ports.length pc, .bool m.con] 45)) V → (fun e w' => e = Ending.returned (.bool (Gp.mayM m)) ∧ Below w.heap.size w w') (.returned (.bool b)) V) := Lib.hid fun V b h1 h2 => ⟨by rw [h1], below_th HB.out h2⟩
  generalize (fun e w' => e = Ending.returned (.bool (Gp.mayM m)) ∧ Below w.heap.size w w') = PQ at *
  clear hb hblk hm hok
  generalize hw1 : w.alloc (.cells #[.int .u32 m.pages, .slice eo m.ext.length ec, .slice po m.ports.length pc, .bool m.con] 45) = w1 at *
  go_enter Tryz.func194, Tryz.ntmps194
  go_wp2
  try rw [hw1]
  clear hw1
  go_loopw [3, 4] (fun vi _ wr => eRel w1 m vi wr) (fun vi _ _ => m.ext.length - (intOf vi).toNat)
  case atStart => exact HR0.out
  case round =>
    clear HR0
    obtain ⟨i, hi, rfl, hall, hbw⟩ := hrel
    have HAll := Lib.hid hall
    have HBw := Lib.hid hbw
    obtain ⟨c0, c1, c2, c3, cf⟩ := HC.out wr hbw
    by_cases hin : i < m.ext.length
    · obtain ⟨x, hx⟩ : ∃ x, m.ext[i]? = some x := ⟨_, List.getElem?_eq_getElem hin⟩
      obtain ⟨g, off, rfl, k0, k1⟩ := ext_cellsR (HM.out wr (below_th HB.out hbw)).e hx
      have hok := HOk.out.e x (List.mem_of_getElem? hx)
      obtain ⟨x0, x1⟩ := x
      obtain ⟨b0, b1, b2, b3⟩ := hok
      have HX := Lib.hid hx
      have hi1 : (i : Int) < m.ext.length := by omega
      clear hall hbw hx
      by_cases d1 : 16 ≤ x0
      · have e1 : decide (16 ≤ x0) = true := decide_eq_true d1
        have hend := fun V => HFin.out V false (may_ext (k := i) fun h => by have := (h _ HX.out).1; simp [Gp.badX] at this; omega)
        have HEnd := Lib.hid hend
        clear hend
        go_wp2
        go_quiet (fail)
        go_wp2
        exact HEnd.out _ (drewN_below (HBw.out.alloc HBw.out.size _) _)
      have e1 : decide (16 ≤ x0) = false := decide_eq_false d1
      by_cases d2 : x1 < 1
      · have e2 : decide (x1 < 1) = true := decide_eq_true d2
        have hend := fun V => HFin.out V false (may_ext (k := i) fun h => by have := (h _ HX.out).1; simp [Gp.badX] at this; omega)
        have HEnd := Lib.hid hend
        clear hend
        go_wp2
        go_quiet (fail)
        go_wp2
        exact HEnd.out _ (drewN_below (HBw.out.alloc HBw.out.size _) _)
      have e2 : decide (x1 < 1) = false := decide_eq_false d2
      by_cases d3 : 1024 < x1
      · have e3 : decide (1024 < x1) = true := decide_eq_true d3
        have hend := fun V => HFin.out V false (may_ext (k := i) fun h => by have := (h _ HX.out).1; simp [Gp.badX] at this; omega)
        have HEnd := Lib.hid hend
        clear hend
        go_wp2
        go_quiet (fail)
        go_wp2
        exact HEnd.out _ (drewN_below (HBw.out.alloc HBw.out.size _) _)
      have e3 : decide (1024 < x1) = false := decide_eq_false d3
      have HGd : Hid (Gp.badX (x0, x1) = false) := Lib.hid (by simp [Gp.badX]; omega)
      by_cases d4 : i = 0
      · have e4 : decide ((0 : Int) < i) = false := decide_eq_false (by omega)
        have e4n : decide (0 < i) = false := decide_eq_false (by omega)
        have HS : Hid (eOk m.ext i) := Lib.hid (fun x hx => by rw [HX.out] at hx; cases hx; exact ⟨HGd.out, fun y hk => by omega⟩)
        clear d4
        go_wp2
        go_quiet (fail)
        go_wp2
        refine ⟨⟨i + 1, by omega, by go_num, fun k hk => ?_, drewN_below (HBw.out.alloc HBw.out.size _) _⟩, by simp [intOf]; omega⟩
        rcases Nat.lt_or_ge k i with q | q
        · exact HAll.out k q
        · obtain rfl : k = i := by omega
          exact HS.out
      have e4 : decide ((0 : Int) < i) = true := decide_eq_true (by omega)
      have e4n : decide (0 < i) = true := decide_eq_true (by omega)
      obtain ⟨y, hy⟩ : ∃ y, m.ext[i - 1]? = some y := ⟨_, List.getElem?_eq_getElem (by omega)⟩
      obtain ⟨g', off', hgo, k2, k3⟩ := ext_cellsR (HM.out wr (below_th HB.out HBw.out)).e hy
      obtain ⟨rfl, rfl⟩ : g = g' ∧ off = off' := by simpa using hgo
      have hw : IntKind.i64.wrap ((i : Int) - 1) = ((i - 1 : Nat) : Int) := by rw [IntKind.wrap_i64]; omega
      have HY := Lib.hid hy
      clear hy hgo
      obtain ⟨y0, y1⟩ := y
      have hj0 : (0 : Int) ≤ ((i - 1 : Nat) : Int) := by omega
      have hj1 : ((i - 1 : Nat) : Int) < m.ext.length := by omega
      obtain ⟨j, hj⟩ : ∃ j, i - 1 = j := ⟨_, rfl⟩
      rw [hj] at k2 k3 hw hj0 hj1 HY
      by_cases d5 : x0 ≤ y0
      · have e5 : decide (x0 ≤ y0) = true := decide_eq_true d5
        have hend := fun V => HFin.out V false (may_ext (k := i) fun h => by have := (h _ HX.out).2 _ (by omega) (by rw [hj]; exact HY.out); simp at this; omega)
        have HEnd := Lib.hid hend
        clear hend d5 hj d4
        have hbk := heap_alloc_new wr (.cells #[.int .u32 x0, .int .u32 x1] 318)
        have hal := (Below.refl wr.heap.size wr).alloc (Nat.le_refl _) (.cells #[.int .u32 x0, .int .u32 x1] 318)
        obtain ⟨z0, z1, zf⟩ := two_of hbk
        have k2' := cell_below hal k2
        have c1' := cell_below hal c1
        go_wp2
        refine B (fun V => V.cell? ⟨wr.heap.size, 0, none⟩ = some (.int .u32 x0) ∧ V.cell? ⟨wr.heap.size, 1, none⟩ = some (.int .u32 x1) ∧ V.cell? ⟨w.heap.size, 1, none⟩ = some (.slice (some ⟨g, off, none⟩) m.ext.length ec) ∧ V.cell? ⟨g, off + j * 2, none⟩ = some (.int .u32 y0)) ⟨z0, z1, c1', k2'⟩ fun wd hwd hS => ?_
        have HWd : Hid (Below w1.heap.size w1 wd) := Lib.hid (by rw [hwd]; exact (HBw.out.alloc HBw.out.size _).drew)
        clear hwd z0 z1 zf k2' c1' hbk hal c0 c1 c2 c3 cf k0 k1 k2 k3
        refine T 0 hS ?_
        refine T 1 hS ?_
        refine T 2 hS ?_
        refine T 3 hS ?_
        refine T 4 hS ?_
        refine T 5 hS ?_
        refine T 6 hS ?_
        refine T 7 hS ?_
        refine T 8 hS ?_
        refine T 9 hS ?_
        refine T 10 hS ?_
        refine T 11 hS ?_
        refine T 12 hS ?_
        refine T 13 hS ?_
        refine T 14 hS ?_
        refine T 15 hS ?_
        refine T 16 hS ?_
        refine T 17 hS ?_
        refine T 18 hS ?_
        refine T 19 hS ?_
        refine T 20 hS ?_
        refine T 21 hS ?_
        refine T 22 hS ?_
        refine T 23 hS ?_
        refine T 24 hS ?_
        refine T 25 hS ?_
        refine T 26 hS ?_
        refine T 27 hS ?_
        refine T 28 hS ?_
        refine wpAnyH_done (by kernel_rfl) ?_ _
        clear hS
        go_wp2
        exact HEnd.out _ HWd.out
      · have e5 : decide (x0 ≤ y0) = false := decide_eq_false d5
        have HS : Hid (eOk m.ext i) := Lib.hid (fun x hx => by rw [HX.out] at hx; cases hx; exact ⟨HGd.out, fun y hk hy => by rw [hj, HY.out] at hy; cases hy; show y0 < x0; omega⟩)
        clear d5 hj d4
        have hbk := heap_alloc_new wr (.cells #[.int .u32 x0, .int .u32 x1] 318)
        have hal := (Below.refl wr.heap.size wr).alloc (Nat.le_refl _) (.cells #[.int .u32 x0, .int .u32 x1] 318)
        obtain ⟨z0, z1, zf⟩ := two_of hbk
        have k2' := cell_below hal k2
        have c1' := cell_below hal c1
        go_wp2
        refine B (fun V => V.cell? ⟨wr.heap.size, 0, none⟩ = some (.int .u32 x0) ∧ V.cell? ⟨wr.heap.size, 1, none⟩ = some (.int .u32 x1) ∧ V.cell? ⟨w.heap.size, 1, none⟩ = some (.slice (some ⟨g, off, none⟩) m.ext.length ec) ∧ V.cell? ⟨g, off + j * 2, none⟩ = some (.int .u32 y0)) ⟨z0, z1, c1', k2'⟩ fun wd hwd hS => ?_
        have HWd : Hid (Below w1.heap.size w1 wd) := Lib.hid (by rw [hwd]; exact (HBw.out.alloc HBw.out.size _).drew)
        clear hwd z0 z1 zf k2' c1' hbk hal c0 c1 c2 c3 cf k0 k1 k2 k3
        refine T 0 hS ?_
        refine T 1 hS ?_
        refine T 2 hS ?_
        refine T 3 hS ?_
        refine T 4 hS ?_
        refine T 5 hS ?_
        refine T 6 hS ?_
        refine T 7 hS ?_
        refine T 8 hS ?_
        refine T 9 hS ?_
        refine T 10 hS ?_
        refine T 11 hS ?_
        refine T 12 hS ?_
        refine T 13 hS ?_
        refine T 14 hS ?_
        refine T 15 hS ?_
        refine T 16 hS ?_
        refine T 17 hS ?_
        refine T 18 hS ?_
        refine T 19 hS ?_
        refine T 20 hS ?_
        refine T 21 hS ?_
        refine T 22 hS ?_
        refine T 23 hS ?_
        refine T 24 hS ?_
        refine T 25 hS ?_
        refine T 26 hS ?_
        refine T 27 hS ?_
        refine T 28 hS ?_
        refine wpAnyH_done (by kernel_rfl) ?_ _
        clear hS
        go_wp2
        refine ⟨⟨i + 1, by omega, by go_num, fun k hk => ?_, HWd.out⟩, by simp [intOf]; omega⟩
        rcases Nat.lt_or_ge k i with q | q
        · exact HAll.out k q
        · obtain rfl : k = i := by omega
          exact HS.out
    · have hi1 : ¬ (i : Int) < m.ext.length := by omega
      have HEx : Hid (∀ k, k < m.ext.length → eOk m.ext k) := Lib.hid fun k hk => hall k (by omega)
      have HP0 : Hid (pRel w1 m (.int .i64 0) wr) := Lib.hid ⟨0, by omega, rfl, fun k hk => absurd hk (Nat.not_lt_zero _), hbw⟩
      clear hall hbw HAll HBw
      go_wp2
      clear c0 c1 c2 c3 cf hi1 hi hin
      go_loopw [5] (fun vi V => pRel w1 m vi V) (fun vi _ => m.ports.length - (intOf vi).toNat)
      case atStart => exact HP0.out
      case round =>
        clear HP0
        obtain ⟨i, hi, rfl, hall, hbw⟩ := hrel
        have HAll := Lib.hid hall
        have HBw := Lib.hid hbw
        obtain ⟨c0, c1, c2, c3, cf⟩ := HC.out _ hbw
        by_cases hin : i < m.ports.length
        · obtain ⟨x, hx⟩ : ∃ x, m.ports[i]? = some x := ⟨_, List.getElem?_eq_getElem hin⟩
          obtain ⟨g, off, rfl, k0⟩ := u16_cellR (HM.out _ (below_th HB.out hbw)).p hx
          have HX := Lib.hid hx
          have hi1 : (i : Int) < m.ports.length := by omega
          clear hall hbw hx
          by_cases d1 : x = 0
          · subst d1
            have hend := fun V => HFin.out V false (may_port (k := i) fun h => (h _ HX.out).1 rfl)
            have HEnd := Lib.hid hend
            clear hend
            go_wp2
            go_quiet (fail)
            go_wp2
            exact HEnd.out _ (drewN_below HBw.out _)
          have e1 : (x == 0) = false := beq_eq_false_iff_ne.2 d1
          have HD1 := Lib.hid d1
          clear d1
          by_cases d4 : i = 0
          · have e4 : decide ((0 : Int) < i) = false := decide_eq_false (by omega)
            have e4n : decide (0 < i) = false := decide_eq_false (by omega)
            have HS : Hid (pOk m.ports i) := Lib.hid (fun x hx => by rw [HX.out] at hx; cases hx; exact ⟨HD1.out, fun y hk => by omega⟩)
            clear d4
            go_wp2
            go_quiet (fail)
            go_wp2
            refine ⟨⟨i + 1, by omega, by go_num, fun k hk => ?_, drewN_below HBw.out _⟩, by simp [intOf]; omega⟩
            rcases Nat.lt_or_ge k i with q | q
            · exact HAll.out k q
            · obtain rfl : k = i := by omega
              exact HS.out
          have e4 : decide ((0 : Int) < i) = true := decide_eq_true (by omega)
          have e4n : decide (0 < i) = true := decide_eq_true (by omega)
          obtain ⟨y, hy⟩ : ∃ y, m.ports[i - 1]? = some y := ⟨_, List.getElem?_eq_getElem (by omega)⟩
          obtain ⟨g', off', hgo, k2⟩ := u16_cellR (HM.out _ (below_th HB.out HBw.out)).p hy
          obtain ⟨rfl, rfl⟩ : g = g' ∧ off = off' := by simpa using hgo
          have hw : IntKind.i64.wrap ((i : Int) - 1) = ((i - 1 : Nat) : Int) := by rw [IntKind.wrap_i64]; omega
          have HY := Lib.hid hy
          clear hy hgo
          have hj0 : (0 : Int) ≤ ((i - 1 : Nat) : Int) := by omega
          have hj1 : ((i - 1 : Nat) : Int) < m.ports.length := by omega
          obtain ⟨j, hj⟩ : ∃ j, i - 1 = j := ⟨_, rfl⟩
          rw [hj] at k2 hw hj0 hj1 HY
          have HJ := Lib.hid hj
          have HI0 : Hid (0 < i) := Lib.hid (by omega)
          clear hj d4
          by_cases d5 : x ≤ y
          · have e5 : decide (x ≤ y) = true := decide_eq_true d5
            have hend := fun V => HFin.out V false (may_port (k := i) fun h => by have hj := HJ.out; have := (h x HX.out).2 y HI0.out (by rw [hj]; exact HY.out); exact absurd this (by omega))
            have HEnd := Lib.hid hend
            clear hend d5
            go_wp2
            refine B (fun V => V.cell? ⟨w.heap.size, 2, none⟩ = some (.slice (some ⟨g, off, none⟩) m.ports.length pc) ∧ V.cell? ⟨g, off + i, none⟩ = some (.int .u16 x) ∧ V.cell? ⟨g, off + j, none⟩ = some (.int .u16 y)) ⟨c2, k0, k2⟩ fun wd hwd hS => ?_
            have HWd : Hid (Below w1.heap.size w1 wd) := Lib.hid (by rw [hwd]; exact HBw.out.drew)
            clear hwd c0 c1 c2 c3 cf k0 k2
            refine T 0 hS ?_
            refine T 1 hS ?_
            refine T 2 hS ?_
            refine T 3 hS ?_
            refine T 4 hS ?_
            refine T 5 hS ?_
            refine T 6 hS ?_
            refine T 7 hS ?_
            refine T 8 hS ?_
            refine T 9 hS ?_
            refine T 10 hS ?_
            refine T 11 hS ?_
            refine T 12 hS ?_
            refine T 13 hS ?_
            refine T 14 hS ?_
            refine T 15 hS ?_
            refine T 16 hS ?_
            refine T 17 hS ?_
            refine T 18 hS ?_
            refine T 19 hS ?_
            refine T 20 hS ?_
            refine T 21 hS ?_
            refine T 22 hS ?_
            refine T 23 hS ?_
            refine wpAnyH_done (by kernel_rfl) ?_ _
            clear hS
            go_wp2
            exact HEnd.out _ HWd.out
          · have e5 : decide (x ≤ y) = false := decide_eq_false d5
            have HS : Hid (pOk m.ports i) := Lib.hid (fun x hx => by rw [HX.out] at hx; cases hx; exact ⟨HD1.out, fun y hk hy => by rw [HJ.out, HY.out] at hy; cases hy; omega⟩)
            clear d5
            go_wp2
            refine B (fun V => V.cell? ⟨w.heap.size, 2, none⟩ = some (.slice (some ⟨g, off, none⟩) m.ports.length pc) ∧ V.cell? ⟨g, off + i, none⟩ = some (.int .u16 x) ∧ V.cell? ⟨g, off + j, none⟩ = some (.int .u16 y)) ⟨c2, k0, k2⟩ fun wd hwd hS => ?_
            have HWd : Hid (Below w1.heap.size w1 wd) := Lib.hid (by rw [hwd]; exact HBw.out.drew)
            clear hwd c0 c1 c2 c3 cf k0 k2
            refine T 0 hS ?_
            refine T 1 hS ?_
            refine T 2 hS ?_
            refine T 3 hS ?_
            refine T 4 hS ?_
            refine T 5 hS ?_
            refine T 6 hS ?_
            refine T 7 hS ?_
            refine T 8 hS ?_
            refine T 9 hS ?_
            refine T 10 hS ?_
            refine T 11 hS ?_
            refine T 12 hS ?_
            refine T 13 hS ?_
            refine T 14 hS ?_
            refine T 15 hS ?_
            refine T 16 hS ?_
            refine T 17 hS ?_
            refine T 18 hS ?_
            refine T 19 hS ?_
            refine T 20 hS ?_
            refine T 21 hS ?_
            refine T 22 hS ?_
            refine T 23 hS ?_
            refine wpAnyH_done (by kernel_rfl) ?_ _
            clear hS
            go_wp2
            refine ⟨⟨i + 1, by omega, by go_num, fun k hk => ?_, HWd.out⟩, by simp [intOf]; omega⟩
            rcases Nat.lt_or_ge k i with q | q
            · exact HAll.out k q
            · obtain rfl : k = i := by omega
              exact HS.out
        · have hi1 : ¬ (i : Int) < m.ports.length := by omega
          have HV := Lib.hid (may_all HEx.out fun k hk => hall k (by omega))
          by_cases d1 : m.pages ≤ 1024
          · have e1 : decide (m.pages ≤ 1024) = true := decide_eq_true d1
            by_cases d2 : m.ports.length ≤ 16
            · have e2 : decide ((m.ports.length : Int) ≤ 16) = true := decide_eq_true (by omega)
              have hend := fun V => HFin.out V true (by rw [HV.out, decide_eq_true d1, decide_eq_true d2]; rfl)
              have HEnd := Lib.hid hend
              clear hend hall d1 d2 hbw
              go_wp2
              first
                | exact HEnd.out _ HBw.out
                | (go_ret; exact HEnd.out _ HBw.out)
            · have e2 : decide ((m.ports.length : Int) ≤ 16) = false := decide_eq_false (by omega)
              have hend := fun V => HFin.out V false (by rw [HV.out, decide_eq_true d1, decide_eq_false d2]; rfl)
              have HEnd := Lib.hid hend
              clear hend hall d1 d2 hbw
              go_wp2
              first
                | exact HEnd.out _ HBw.out
                | (go_ret; exact HEnd.out _ HBw.out)
          · have e1 : decide (m.pages ≤ 1024) = false := decide_eq_false d1
            have hend := fun V => HFin.out V false (by rw [HV.out, decide_eq_false d1]; rfl)
            have HEnd := Lib.hid hend
            clear hend hall d1 hbw
            go_wp2
            first
              | exact HEnd.out _ HBw.out
              | (go_ret; exact HEnd.out _ HBw.out)
end R11
end Go.Proofs.YtgdodbcpnmfnnaaGreat
namespace Go.Proofs.YtgdodbcpnmfnnaaGreat
open Go.RowKit
set_option linter.unusedVariables false
set_option linter.unusedSimpArgs false
namespace Rc
theorem info_gr : (Tryz.prog.info? 219).map (fun i => (i.zero, i.size, i.bytes)) = some (some (.agg #[.int .i64 0, .int .u32 0, .slice none 0 0, .slice none 0 0, .bool false, .int .u32 0, .int .u32 0]), 7, 80) := by kernel_rfl
theorem rcC_app (L M : List RcE) : rcC (L ++ M) = rcC L ++ rcC M := by unfold rcC; rw [List.flatMap_append]
theorem rcC_take (L : List RcE) (i : Nat) : rcC (L.take i) = (rcC L).take (i * 7) := by
  rcases Nat.le_total i L.length with q | q
  · have h := rcC_app (L.take i) (L.drop i)
    rw [List.take_append_drop] at h
    rw [h, List.take_left' (by rw [rcC_len, List.length_take]; omega)]
  · rw [List.take_of_length_le q, List.take_of_length_le (by rw [rcC_len]; omega)]
theorem rcC_drop (L : List RcE) (i : Nat) : rcC (L.drop i) = (rcC L).drop (i * 7) := by
  rcases Nat.le_total i L.length with q | q
  · have h := rcC_app (L.take i) (L.drop i)
    rw [List.take_append_drop] at h
    rw [h, List.drop_left' (by rw [rcC_len, List.length_take]; omega)]
  · rw [List.drop_eq_nil_of_le q, List.drop_eq_nil_of_le (by rw [rcC_len]; omega)]
    rfl
section
variable {w : World} {a : RcAt} {hp : Int} {G : Int → Option Gr}
theorem one_cells (h : Rcs w a hp G) : ∀ u, u ∈ rcC a.L → u.oneCell' = true := rcC_one a.L fun x hx => by
  have hm := h.mns x hx
  obtain ⟨o, c, e⟩ := hm.e.form
  obtain ⟨o', c', e'⟩ := hm.p.form
  rw [e, e']
  exact ⟨rfl, rfl⟩
theorem ty_keep {w w' : World} {gb : Nat} {c : Array Value} {T : TypeId} (hg : w.heap[gb]? = some (.cells c T (0, 0))) (hm : Mod (fun k => k = gb) w w') {ty : TypeId} {s n : Nat} {v : Value} {xs : List Value} (hsl : SlV w ty s v n xs) (hty : T ≠ ty) : SlV w' ty s v n xs := by
  refine ⟨hsl.1, ?_⟩
  rcases hsl.2 with g | ⟨g, off, cap, cur, rfl, hgg, rest⟩
  · exact .inl g
  · exact .inr ⟨g, off, cap, cur, rfl, (hm.block _ (lt_of_block hgg) (fun e => by rw [e, hg] at hgg; cases hgg; exact hty rfl)).trans hgg, rest⟩
theorem newRow (h : Rcs w a hp G) {W : World} (hb : Below w.heap.size w W) {v : Value} {L : List RcE} {G' : Int → Option Gr} (hs : SlV W 219 7 v L.length (rcC L)) (hmn : ∀ y, y ∈ L → MnAt W y.ev y.pv y.g.m) (hc : L.map RcE.key = canon G') (ho : Gp.OkG hp G') :
    Rcs (W.setCell ⟨a.rb, 2, none⟩ v) ⟨a.rb, a.hv, v, L⟩ hp G' ∧ Mod (fun k => k = a.rb) W (W.setCell ⟨a.rb, 2, none⟩ v) := by
  have hm : Mod (fun k => k = a.rb) W (W.setCell ⟨a.rb, 2, none⟩ v) := Mod.setCell (F := fun k => k = a.rb) (Mod.refl _ _) ⟨a.rb, 2, none⟩ (.inl rfl) _
  have hh := (hb.block _ (lt_of_block h.head)).trans h.head
  exact ⟨⟨heap_setCell_same W a.rb 2 _ _ v hh, ty_keep hh hm hs (by decide), fun y hy => ⟨ty_keep hh hm (hmn y hy).e (by decide), ty_keep hh hm (hmn y hy).p (by decide)⟩, hc, ho⟩, hm⟩
end
end Rc
end Go.Proofs.YtgdodbcpnmfnnaaGreat
namespace Go.Proofs.YtgdodbcpnmfnnaaGreat
open Go.RowKit
set_option linter.unusedVariables false
set_option linter.unusedSimpArgs false
namespace Rc
section
variable {w : World} {a : RcAt} {hp : Int} {G : Int → Option Gr}
theorem okPut (h : Gp.OkG hp G) {n pg : Int} {m : Mn} (n1 : 1 ≤ n) (n8 : n ≤ 8) (hn : G n = none) (hm : m.ok) (hc : Gp.checkE m = 0) (p0 : 0 ≤ pg) (hf : Gp.sum G + (m.pages + pg) ≤ hp) : Gp.OkG hp (Gp.upd G n (some ⟨m, pg, 0⟩)) := by
  refine ⟨fun k => ?_, fun k hk => ?_, ?_, fun k g hg => ?_, h.h1⟩
  · by_cases e : k = n
    · subst e; rw [Gp.upd_at]; intro g hg; cases hg; exact ⟨hm, Int.le_refl 0, hm.p0, p0⟩
    · rw [Gp.upd_ne _ _ e]; exact h.ok k
  · by_cases e : k = n
    · subst e; exact ⟨n1, n8⟩
    · rw [Gp.upd_ne _ _ e] at hk; exact h.dom k hk
  · rw [Gp.sum_put n1 n8, hn]
    show Gp.sum G + (m.pages + pg - 0) ≤ hp
    omega
  · by_cases e : k = n
    · subst e; rw [Gp.upd_at] at hg; cases hg; exact hc
    · rw [Gp.upd_ne _ _ e] at hg; exact h.may k g hg
def RgP (w : World) (a : RcAt) (hp : Int) (hx : List Int) (G : Int → Option Gr) (n : Int) (m : Mn) (pg : Int) (e : Ending) (w' : World) : Prop :=
  (Ca.grantE hp hx G n m pg ≠ 0 ∧ e = .returned (.int .i64 (Ca.grantE hp hx G n m pg)) ∧ Below w.heap.size w w') ∨
  (Ca.grantE hp hx G n m pg = 0 ∧ e = .returned (.int .i64 0) ∧ ∃ a', Rcs w' a' hp (Gp.upd G n (some ⟨m, pg, 0⟩)) ∧ a'.rb = a.rb ∧ a'.hv = a.hv ∧ (∀ k, a'.rf k → a.rf k ∨ w.heap.size ≤ k ∧ k < w'.heap.size) ∧ (∀ k, a'.lv.ownBlock = some k → w.heap.size ≤ k ∧ k < w'.heap.size) ∧ Mod (fun k => k = a.rb) w w')
theorem gap (h : Rcs w a hp G) {n : Int} (n1 : 1 ≤ n) (n8 : n ≤ 8) (hn : G n = none) : (lo G n).length ≤ a.L.length ∧ (∀ (i : Nat) (x : RcE), a.L[i]? = some x → (i < (lo G n).length → x.n < n) ∧ ((lo G n).length ≤ i → n < x.n)) := by
  have hk := h.can
  rw [canon_none n1 n8 hn] at hk
  refine ⟨?_, fun i x hx => ⟨fun hi => ?_, fun hi => ?_⟩⟩
  · have := congrArg List.length hk
    rw [List.length_map, List.length_append] at this
    omega
  · have hki : (a.L.map RcE.key)[i]? = some x.key := by rw [List.getElem?_map, hx]; rfl
    rw [hk, List.getElem?_append_left hi] at hki
    exact (mem_lo (List.mem_of_getElem? hki)).1
  · have hki : (a.L.map RcE.key)[i]? = some x.key := by rw [List.getElem?_map, hx]; rfl
    rw [hk, List.getElem?_append_right hi] at hki
    exact (mem_hi (List.mem_of_getElem? hki)).1
theorem can_put (h : Rcs w a hp G) {n pg : Int} {m : Mn} {ev pv : Value} (n1 : 1 ≤ n) (n8 : n ≤ 8) (hn : G n = none) : ((a.L.take (lo G n).length ++ [(⟨n, ⟨m, pg, 0⟩, ev, pv⟩ : RcE)]) ++ a.L.drop (lo G n).length).map RcE.key = canon (Gp.upd G n (some ⟨m, pg, 0⟩)) := by
  rw [canon_put n1 n8, List.map_append, List.map_append, List.map_take, List.map_drop, h.can, canon_none n1 n8 hn, List.take_left' rfl, List.drop_left' rfl]
  simp [RcE.key]
theorem fin_put (h : Rcs w a hp G) {n pg : Int} {m : Mn} {q : Nat} {ev pv : Value} (hq : q ≤ a.L.length) (hcan : ((a.L.take q ++ [(⟨n, ⟨m, pg, 0⟩, ev, pv⟩ : RcE)]) ++ a.L.drop q).map RcE.key = canon (Gp.upd G n (some ⟨m, pg, 0⟩))) (hok : Gp.OkG hp (Gp.upd G n (some ⟨m, pg, 0⟩)))
    {W : World} (hb : Below w.heap.size w W) {o9 : Option Addr} {c9 : Nat} (hs : SlV W 219 7 (.slice o9 (q + 1) c9) (q + 1) (rcC (a.L.take q) ++ (⟨n, ⟨m, pg, 0⟩, ev, pv⟩ : RcE).cells)) (hown : ∀ k, (Value.slice o9 (q + 1) c9).ownBlock = some k → w.heap.size ≤ k ∧ k < W.heap.size)
    (hmn : MnAt W ev pv m) (hnew : ∀ k, ev.ownBlock = some k ∨ pv.ownBlock = some k → w.heap.size ≤ k ∧ k < W.heap.size) {ao : Option Addr} {ac : Nat} (hlv : a.lv = .slice ao a.L.length ac) (A : Option Addr) (cap : Nat) (hA : q < a.L.length → ∃ g off, ao = some ⟨g, off, none⟩ ∧ A = some ⟨g, off + q * 7, none⟩) :
    ∃ o10 c10 W10, (Builtin.append_ #[199, 199] 199 #[.slice o9 (q + 1) c9, .slice A (a.L.length - q) cap]).run Tryz.prog W = .ok (.slice o10 (q + 1 + (a.L.length - q)) c10) W10 ∧
      W10.cell? ⟨a.rb, 2, none⟩ = some (.slice ao a.L.length ac) ∧ W10.frozen? ⟨a.rb, 2, none⟩ = false ∧
      (∃ a', Rcs (W10.setCell ⟨a.rb, 2, none⟩ (.slice o10 (q + 1 + (a.L.length - q)) c10)) a' hp (Gp.upd G n (some ⟨m, pg, 0⟩)) ∧ a'.rb = a.rb ∧ a'.hv = a.hv ∧ (∀ k, a'.rf k → a.rf k ∨ w.heap.size ≤ k ∧ k < (W10.setCell ⟨a.rb, 2, none⟩ (.slice o10 (q + 1 + (a.L.length - q)) c10)).heap.size) ∧ (∀ k, a'.lv.ownBlock = some k → w.heap.size ≤ k ∧ k < (W10.setCell ⟨a.rb, 2, none⟩ (.slice o10 (q + 1 + (a.L.length - q)) c10)).heap.size) ∧ Mod (fun k => k = a.rb) w (W10.setCell ⟨a.rb, 2, none⟩ (.slice o10 (q + 1 + (a.L.length - q)) c10))) := by
  obtain ⟨i0, hi0', hz0, hz1, hz2⟩ := info_parts info_gr
  have h9 := h.below hb
  have hl := h.len
  have hrow := h9.row
  rw [hlv] at hrow
  obtain ⟨o10, c10, W10, hr, hs10, hm10, ho10⟩ := Rw.app (W := W) (t := 199) Rw.none_gr Tryz.underlying199 hi0' hz0 hz1 hz2 rfl (by omega) (by omega) hs (m := a.L.length - q) (cap := cap) (ys := (rcC a.L).drop (q * 7)) (by rw [List.length_drop, rcC_len]; omega) (a := A) (by
    rcases Nat.lt_or_ge q a.L.length with z | z
    · obtain ⟨g, off, rfl, rfl⟩ := hA z
      have := Rw.at_part hrow rfl q a.L.length (by omega) (Nat.le_refl _)
      rw [List.take_of_length_le (by rw [List.length_drop, rcC_len]; omega)] at this
      exact this
    · intro k u hu
      rw [List.drop_eq_nil_of_le (by rw [rcC_len]; omega)] at hu
      simp at hu) (by omega) (fun u hu => one_cells h u (List.mem_of_mem_drop hu))
  have hfr : ∀ k, k < w.heap.size → (Value.slice o9 (q + 1) c9).ownBlock ≠ some k := fun k hk e => by have := (hown k e).1; omega
  have hbW : Below w.heap.size w W10 := Mod.below hb hm10 hb.size fun k _ e => (hown k e).1
  have h10 := h.below hbW
  refine ⟨o10, c10, W10, hr, by rw [h10.cells.2.2.1, hlv], h10.cells.2.2.2 2, ?_⟩
  have hlen : q + 1 + (a.L.length - q) = ((a.L.take q ++ [(⟨n, ⟨m, pg, 0⟩, ev, pv⟩ : RcE)]) ++ a.L.drop q).length := by simp; omega
  have hs2 : SlV W10 219 7 (.slice o10 (q + 1 + (a.L.length - q)) c10) ((a.L.take q ++ [(⟨n, ⟨m, pg, 0⟩, ev, pv⟩ : RcE)]) ++ a.L.drop q).length (rcC ((a.L.take q ++ [(⟨n, ⟨m, pg, 0⟩, ev, pv⟩ : RcE)]) ++ a.L.drop q)) := by
    rw [← hlen, rcC_app, rcC_app, rcC_drop, show rcC [(⟨n, ⟨m, pg, 0⟩, ev, pv⟩ : RcE)] = (⟨n, ⟨m, pg, 0⟩, ev, pv⟩ : RcE).cells by unfold rcC; simp]
    exact hs10
  have hm10m : MnAt W10 ev pv m := by
    have hc : ∃ cc, W.heap.size = cc := ⟨_, rfl⟩
    have hk : ∀ {ty : TypeId} {s n : Nat} {v : Value} {xs : List Value}, SlV W ty s v n xs → 219 ≠ ty → SlV W10 ty s v n xs := fun hsl hty => by
      refine ⟨hsl.1, ?_⟩
      rcases hsl.2 with z | ⟨g', o', c', cu', rfl, hgg, rest⟩
      · exact .inl z
      · refine .inr ⟨g', o', c', cu', rfl, (hm10.block _ (lt_of_block hgg) (fun e => ?_)).trans hgg, rest⟩
        rcases hs.2 with ⟨z, _⟩ | ⟨g2, o2, c2, cu2, e2, hg2, _⟩
        · omega
        · rw [e2] at e
          cases e
          rw [hg2] at hgg
          cases hgg
          exact hty rfl
    exact ⟨hk hmn.e (by decide), hk hmn.p (by decide)⟩
  obtain ⟨r1, r2⟩ := newRow h hbW hs2 (fun y hy => by
    rcases List.mem_append.1 hy with z | z
    · rcases List.mem_append.1 z with z | z
      · exact (h.mns y (List.mem_of_mem_take z)).below hbW
      · simp at z
        subst z
        exact hm10m
    · exact (h.mns y (List.mem_of_mem_drop z)).below hbW) hcan hok
  have hz := r2.size
  have hzW := hm10.size
  refine ⟨_, r1, rfl, rfl, fun k hk => ?_, fun k hk => ?_, (Mod.of_below hbW _).same r2⟩
  · obtain ⟨y, hy, hk⟩ := hk
    rcases List.mem_append.1 hy with z | z
    · rcases List.mem_append.1 z with z | z
      · exact .inl ⟨y, List.mem_of_mem_take z, hk⟩
      · simp at z
        subst z
        refine .inr ?_
        have := hnew k hk
        omega
    · exact .inl ⟨y, List.mem_of_mem_drop z, hk⟩
  · have hk : (Value.slice o10 (q + 1 + (a.L.length - q)) c10).ownBlock = some k := hk
    rcases ho10 with z | ⟨k', z, z1, z2⟩
    · rw [z] at hk
      have := hown k hk
      omega
    · rw [z] at hk
      cases hk
      have := hb.size
      omega
def ngRel (w : World) (m : Mn) (ev pv : Value) (f : Int × Int → Bool) (vi : Value) (wr : World) : Prop :=
  ∃ i : Nat, i ≤ m.ext.length ∧ vi = .int .i64 i ∧ (∀ (k : Nat) (x : Int × Int), k < i → m.ext[k]? = some x → f x = false) ∧ Below w.heap.size w wr ∧ MBx wr w.heap.size m ev pv
def roRel (w : World) (L : List RcE) (q : Nat) (m : Mn) (ev pv : Value) (vl vi : Value) (wr : World) : Prop :=
  ∃ i : Nat, i ≤ q ∧ vi = .int .i64 i ∧ (∃ o c, vl = .slice o i c) ∧ SlV wr 219 7 vl i (rcC (L.take i)) ∧ (∀ k, vl.ownBlock = some k → w.heap.size + 1 ≤ k ∧ k < wr.heap.size) ∧ Below w.heap.size w wr ∧ MBx wr w.heap.size m ev pv
theorem four0 {x y z u : Int} (h : x ≠ 0) : firstE [x, y, z, u] = x := by
  unfold firstE
  simp only [List.find?_cons, bne_iff_ne.2 h]
  rfl
theorem four1 {y z u : Int} (h : y ≠ 0) : firstE [0, y, z, u] = y := by
  unfold firstE
  simp only [List.find?_cons, bne_iff_ne.2 h]
  rfl
theorem four2 {z u : Int} (h : z ≠ 0) : firstE [0, 0, z, u] = z := by
  unfold firstE
  simp only [List.find?_cons, bne_iff_ne.2 h]
  rfl
theorem four3 {u : Int} : firstE [0, 0, 0, u] = u := by
  unfold firstE
  by_cases h : u = 0
  · subst h; rfl
  · simp only [List.find?_cons, bne_iff_ne.2 h]
    rfl
set_option maxRecDepth 100000 in
set_option maxHeartbeats 16000000 in
theorem grant (h : Rcs w a hp G) {hx : List Int} (hh : RwV w 1 a.hv hx.length (hx.map (Value.int .u32))) (hl : hx.length ≤ 16) {n pg : Int} (p0 : 0 ≤ pg) {m : Mn} {ev pv : Value} (hm : MnIn w ev pv m) (hok : m.ok) :
    Calls Tryz.prog 85 #[.pointer (some ⟨a.rb, 0, none⟩), .int .i64 n, .agg (m.cells ev pv), .int .u32 pg] w (RgP w a hp hx G n m pg) := by
  obtain ⟨eo, ec, rfl⟩ := hm.e.form
  obtain ⟨po, pc, rfl⟩ := hm.p.form
  obtain ⟨ho, hc, hhv⟩ := hh.form
  have hcap := rw_len hm.e
  unfold maxLen at hcap
  have HBad : Hid (∀ V, n < 1 ∨ 8 < n ∨ Gp.checkE m ≠ 0 ∨ 4096 < pg → Below w.heap.size w V → RgP w a hp hx G n m pg (.returned (.int .i64 2)) V) := Lib.hid fun V h1 h2 => by
    have e : Ca.grantE hp hx G n m pg = 2 := if_pos h1
    exact .inl ⟨by rw [e]; decide, by rw [e], h2⟩
  have HHv : Hid (∀ V, ¬ (n < 1 ∨ 8 < n ∨ Gp.checkE m ≠ 0 ∨ 4096 < pg) → (G n).isSome = true → Below w.heap.size w V → RgP w a hp hx G n m pg (.returned (.int .i64 9)) V) := Lib.hid fun V h1 h2 h3 => by
    have e : Ca.grantE hp hx G n m pg = 9 := (if_neg h1).trans (if_pos h2)
    exact .inl ⟨by rw [e]; decide, by rw [e], h3⟩
  have HGr : Hid (∀ V e, ¬ (n < 1 ∨ 8 < n ∨ Gp.checkE m ≠ 0 ∨ 4096 < pg) → G n = none → Ca.grE hp hx G m pg = e → e ≠ 0 → Below w.heap.size w V → RgP w a hp hx G n m pg (.returned (.int .i64 e)) V) := Lib.hid fun V e h1 hn h2 h0 h3 => by
    have q : Ca.grantE hp hx G n m pg = e := ((if_neg h1).trans (if_neg (by rw [hn]; simp))).trans h2
    exact .inl ⟨by rw [q]; exact h0, by rw [q], h3⟩
  have HOk : Hid (∀ V a', ¬ (n < 1 ∨ 8 < n ∨ Gp.checkE m ≠ 0 ∨ 4096 < pg) → G n = none → Ca.grE hp hx G m pg = 0 → Rcs V a' hp (Gp.upd G n (some ⟨m, pg, 0⟩)) → a'.rb = a.rb ∧ a'.hv = a.hv ∧ (∀ k, a'.rf k → a.rf k ∨ w.heap.size ≤ k ∧ k < V.heap.size) ∧ (∀ k, a'.lv.ownBlock = some k → w.heap.size ≤ k ∧ k < V.heap.size) ∧ Mod (fun k => k = a.rb) w V → RgP w a hp hx G n m pg (.returned (.int .i64 0)) V) := Lib.hid fun V a' h1 hn h2 h3 h4 => by
    have q : Ca.grantE hp hx G n m pg = 0 := ((if_neg h1).trans (if_neg (by rw [hn]; simp))).trans h2
    exact .inr ⟨q, rfl, a', h3, h4⟩
  generalize RgP w a hp hx G n m pg = PQ at *
  have H := Lib.hid fun V (hV : Below w.heap.size w V) => h.below hV
  have HH := Lib.hid fun V (hV : Below w.heap.size w V) => hh.below hV
  have HMn := Lib.hid fun V (hV : Below w.heap.size w V) => hm.below hV
  have HMo := Lib.hid hok
  have hb := (Below.refl w.heap.size w).alloc (Nat.le_refl _) (.cells (m.cells (.slice eo m.ext.length ec) (.slice po m.ports.length pc)) 45)
  have hk := heap_alloc_new w (.cells (m.cells (.slice eo m.ext.length ec) (.slice po m.ports.length pc)) 45)
  obtain ⟨c0, c1, c2, c3, cf⟩ := man_cells hk
  have HB := Lib.hid hb
  have HBx := Lib.hid (show MBx _ w.heap.size m (.slice eo m.ext.length ec) (.slice po m.ports.length pc) from hk)
  have HMy := Lib.hid (R11.may (hm.below hb) hok)
  unfold Mn.cells at *
  clear hb hk hm hok
  by_cases q1 : n < 1
  · have hend := HBad.out _ (.inl q1) HB.out
    go_enter Tryz.func85, Tryz.ntmps85
    go_wp2
    first
      | exact hend
      | (go_ret; exact hend)
  by_cases q8 : 8 < n
  · have hend := HBad.out _ (.inr (.inl q8)) HB.out
    go_enter Tryz.func85, Tryz.ntmps85
    go_wp2
    first
      | exact hend
      | (go_ret; exact hend)
  go_enter Tryz.func85, Tryz.ntmps85
  go_wp2_with fail
  refine HMy.out.mono ?_
  rintro e w2 ⟨rfl, hb2⟩
  have HB2 := Lib.hid (below_th HB.out hb2)
  have HBx2 := Lib.hid (HBx.out.below hb2)
  clear hb2 c0 c1 c2 c3 cf HBx HMy
  obtain ⟨bm, hbm⟩ : ∃ b, Gp.mayM m = b := ⟨_, rfl⟩
  rw [hbm]
  cases bm with
  | false =>
    have hend := HBad.out w2 (.inr (.inr (.inl (by unfold Gp.checkE; rw [hbm]; decide)))) HB2.out
    clear hbm
    go_wp2
    first
      | exact hend
      | (go_ret; exact hend)
  | true =>
    have HCk : Hid (Gp.checkE m = 0) := Lib.hid (by unfold Gp.checkE; rw [if_pos hbm])
    clear hbm
    by_cases qp : 4096 < pg
    · have hend := HBad.out w2 (.inr (.inr (.inr qp))) HB2.out
      go_wp2
      first
        | exact hend
        | (go_ret; exact hend)
    have HNb : Hid (¬ (n < 1 ∨ 8 < n ∨ Gp.checkE m ≠ 0 ∨ 4096 < pg)) := Lib.hid (by have := HCk.out; omega)
    have HFd := Lib.hid (find (H.out w2 HB2.out) n)
    by_cases hgn : (G n).isSome = true
    · obtain ⟨g, hg⟩ := Option.isSome_iff_exists.1 hgn
      obtain ⟨i, x, hix, _⟩ := of_some (H.out w2 HB2.out) hg
      unfold idxV at HFd
      rw [hix] at HFd
      have hend := HHv.out w2 HNb.out hgn HB2.out
      have i0 : (0 : Int) ≤ i := by omega
      clear hg hix hgn
      go_wp2_with fail
      refine HFd.out.mono ?_
      rintro e w3 ⟨rfl, rfl⟩
      go_wp2
      first
        | exact hend
        | (go_ret; exact hend)
    have HNo : Hid (G n = none) := Lib.hid (by cases q : G n with | none => rfl | some g => rw [q] at hgn; exact absurd rfl hgn)
    unfold idxV at HFd
    rw [of_none (H.out w2 HB2.out) HNo.out] at HFd
    clear hgn
    go_wp2_with fail
    refine HFd.out.mono ?_
    rintro e w3 ⟨rfl, rfl⟩
    have HR0 : Hid (ngRel w m (.slice eo m.ext.length ec) (.slice po m.ports.length pc) (fun x => decide ((hx.length : Int) ≤ x.1)) (.int .i64 0) w2) := Lib.hid ⟨0, by omega, rfl, fun k _ hk => absurd hk (Nat.not_lt_zero _), HB2.out, HBx2.out⟩
    clear HFd HB2 HBx2 HBad HHv
    go_wp2
    go_loopw [9] (fun vi wr => ngRel w m (.slice eo m.ext.length ec) (.slice po m.ports.length pc) (fun x => decide ((hx.length : Int) ≤ x.1)) vi wr) (fun vi _ => m.ext.length - (intOf vi).toNat)
    case atStart => exact HR0.out
    case round =>
      clear HR0
      obtain ⟨i, hi, rfl, hno, hbw, hbx⟩ := hrel
      have HNk := Lib.hid hno
      have HBw := Lib.hid hbw
      have HBx := Lib.hid hbx
      obtain ⟨c0, c1, c2, c3, cf⟩ := man_cells hbx
      by_cases hin : i < m.ext.length
      · obtain ⟨gg, off, heo, e0, e1⟩ := ext_cellsR (HMn.out _ hbw).e (List.getElem?_eq_getElem hin)
        obtain ⟨x, hxe⟩ : ∃ x, m.ext[i] = x := ⟨_, rfl⟩
        rw [hxe] at e0 e1
        have HX : Hid (m.ext[i]? = some x) := Lib.hid (by rw [List.getElem?_eq_getElem hin, hxe])
        have hi1 : (i : Int) < m.ext.length := by omega
        obtain ⟨d0, d1, d2, _⟩ := (H.out _ hbw).cells
        rw [hhv] at d1
        have wl : IntKind.u32.wrap (hx.length : Int) = hx.length := wrap32 (by omega) (by omega)
        subst heo
        clear hno hbw hbx hxe e1 d0 d2 c0 c2 c3 cf
        obtain ⟨bb, hbb⟩ : ∃ b, decide (x.1 ≥ (hx.length : Int)) = b := ⟨_, rfl⟩
        go_wp2
        refine B (fun V => V.cell? ⟨w.heap.size, 1, none⟩ = some (.slice (some ⟨gg, off, none⟩) m.ext.length ec) ∧ V.cell? ⟨gg, off + i * 2, none⟩ = some (.int .u32 x.1) ∧ V.cell? ⟨a.rb, 1, none⟩ = some (.slice ho hx.length hc)) ⟨c1, e0, d1⟩ fun wd hwd hS => ?_
        have HWd : Hid (Below w.heap.size w wd) := Lib.hid (by rw [hwd]; exact HBw.out.drew)
        have HXd : Hid (MBx wd w.heap.size m (.slice (some ⟨gg, off, none⟩) m.ext.length ec) (.slice po m.ports.length pc)) := Lib.hid (by rw [hwd]; exact HBx.out.below (Below.refl _ _).drew)
        clear hwd c1 e0 d1
        refine T 0 hS ?_
        refine T 1 hS ?_
        refine T 2 hS ?_
        refine T 3 hS ?_
        refine T 4 hS ?_
        refine T 5 hS ?_
        refine T 6 hS ?_
        refine T 7 hS ?_
        refine T 8 hS ?_
        refine T 9 hS ?_
        refine T 10 hS ?_
        refine U 11 fun K hK => ?_
        go_simp
        refine V hK hS ?_; clear hK K
        refine T 12 hS ?_
        refine T 13 hS ?_
        refine wpAnyH_done (by kernel_rfl) ?_ _
        clear hS
        cases bb with
        | true =>
          have HV : Hid (Ca.grE hp hx G m pg = 3) := Lib.hid (by
            have : Ca.noneE m.ext hx.length = 3 := by unfold Ca.noneE Ca.extNone; rw [if_pos (Ca.any_at (f := fun x => decide ((hx.length : Int) ≤ x.1)) HX.out hbb)]
            unfold Ca.grE
            rw [this]
            exact four0 (by decide))
          have hend := HGr.out wd 3 HNb.out HNo.out HV.out (by decide) HWd.out
          go_wp2
          first
            | exact hend
            | (go_ret; exact hend)
        | false =>
          have HBb := Lib.hid hbb
          have hrel' : ngRel w m (.slice (some ⟨gg, off, none⟩) m.ext.length ec) (.slice po m.ports.length pc) (fun x => decide ((hx.length : Int) ≤ x.1)) (.int .i64 ((i : Int) + 1)) wd := ⟨i + 1, by omega, by go_num, fun k y hk hy => by
            rcases Nat.lt_or_ge k i with q | q
            · exact HNk.out k y q hy
            · obtain rfl : k = i := by omega
              rw [HX.out] at hy
              cases hy
              exact HBb.out, HWd.out, HXd.out⟩
          have HRl := Lib.hid hrel'
          clear hrel'
          go_wp2
          exact ⟨HRl.out, by simp [intOf]; omega⟩
      · have hi1 : ¬ (i : Int) < m.ext.length := by omega
        have HN3 : Hid (Ca.noneE m.ext hx.length = 0 ∧ ∀ x, x ∈ m.ext → x.1 < hx.length) := Lib.hid (by
          have hall : ∀ (k : Nat) (x : Int × Int), k < m.ext.length → m.ext[k]? = some x → decide ((hx.length : Int) ≤ x.1) = false := fun k x hk => HNk.out k x (by omega)
          refine ⟨by unfold Ca.noneE Ca.extNone; rw [Ca.any_no (f := fun x => decide ((hx.length : Int) ≤ x.1)) hall]; rfl, fun x hx => ?_⟩
          obtain ⟨k, hk⟩ := List.getElem?_of_mem hx
          have := of_decide_eq_false (hall k x (List.getElem?_eq_some_iff.1 hk).1 hk)
          omega)
        have HL0 : Hid (ngRel w m (.slice eo m.ext.length ec) (.slice po m.ports.length pc) (fun x => decide (hx.getD x.1.toNat 0 < x.2)) (.int .i64 0) wr) := Lib.hid ⟨0, by omega, rfl, fun k _ hk => absurd hk (Nat.not_lt_zero _), hbw, hbx⟩
        clear hno hbw hbx HNk HBw HBx
        go_wp2
        clear c0 c1 c2 c3 cf hi1 hi hin
        go_loopw [10] (fun vi V => ngRel w m (.slice eo m.ext.length ec) (.slice po m.ports.length pc) (fun x => decide (hx.getD x.1.toNat 0 < x.2)) vi V) (fun vi _ => m.ext.length - (intOf vi).toNat)
        case atStart => exact HL0.out
        case round =>
          clear HL0
          obtain ⟨i, hi, rfl, hno, hbw, hbx⟩ := hrel
          generalize wr = w4 at *
          have HNk := Lib.hid hno
          have HBw := Lib.hid hbw
          have HBx := Lib.hid hbx
          obtain ⟨c0, c1, c2, c3, cf⟩ := man_cells hbx
          by_cases hin : i < m.ext.length
          · obtain ⟨gg, off, heo, e0, e1⟩ := ext_cellsR (HMn.out _ hbw).e (List.getElem?_eq_getElem hin)
            obtain ⟨x, hxe⟩ : ∃ x, m.ext[i] = x := ⟨_, rfl⟩
            rw [hxe] at e0 e1
            have HX : Hid (m.ext[i]? = some x) := Lib.hid (by rw [List.getElem?_eq_getElem hin, hxe])
            have hi1 : (i : Int) < m.ext.length := by omega
            obtain ⟨d0, d1, d2, _⟩ := (H.out _ hbw).cells
            have hxl := HN3.out.2 x (List.mem_of_getElem? HX.out)
            have hx0 := (HMo.out.e x (List.mem_of_getElem? HX.out)).1
            obtain ⟨id, hid⟩ := Int.eq_ofNat_of_zero_le hx0
            have hidl : id < hx.length := by omega
            have hu := HH.out _ hbw
            rw [hhv] at hu d1
            obtain ⟨hg, hoff, hho, h0⟩ := u32_cellR hu (List.getElem?_eq_getElem hidl)
            obtain ⟨y, hy⟩ : ∃ y, hx[id] = y := ⟨_, rfl⟩
            rw [hy] at h0
            have HYv : Hid (hx.getD x.1.toNat 0 = y) := Lib.hid (by rw [hid, List.getD, Int.toNat_natCast, List.getElem?_eq_getElem hidl, hy]; rfl)
            rw [hid] at e0
            have hid0 : (0 : Int) ≤ (id : Int) := by omega
            have hid1 : (id : Int) < hx.length := by omega
            subst heo
            subst hho
            clear hno hbw hbx hxe d0 d2 c0 c2 c3 cf hxl hx0 hid hu hy
            obtain ⟨bb, hbb⟩ : ∃ b, decide (x.2 > y) = b := ⟨_, rfl⟩
            go_wp2
            refine B (fun V => V.cell? ⟨w.heap.size, 1, none⟩ = some (.slice (some ⟨gg, off, none⟩) m.ext.length ec) ∧ V.cell? ⟨gg, off + i * 2, none⟩ = some (.int .u32 id) ∧ V.cell? ⟨gg, off + i * 2 + 1, none⟩ = some (.int .u32 x.2) ∧ V.cell? ⟨a.rb, 1, none⟩ = some (.slice (some ⟨hg, hoff, none⟩) hx.length hc) ∧ V.cell? ⟨hg, hoff + id, none⟩ = some (.int .u32 y)) ⟨c1, e0, e1, d1, h0⟩ fun wd hwd hS => ?_
            have HWd : Hid (Below w.heap.size w wd) := Lib.hid (by rw [hwd]; exact HBw.out.drew)
            have HXd : Hid (MBx wd w.heap.size m (.slice (some ⟨gg, off, none⟩) m.ext.length ec) (.slice po m.ports.length pc)) := Lib.hid (by rw [hwd]; exact HBx.out.below (Below.refl _ _).drew)
            clear hwd c1 e0 e1 d1 h0
            refine T 0 hS ?_
            refine T 1 hS ?_
            refine T 2 hS ?_
            refine T 3 hS ?_
            refine T 4 hS ?_
            refine T 5 hS ?_
            refine T 6 hS ?_
            refine T 7 hS ?_
            refine T 8 hS ?_
            refine T 9 hS ?_
            refine T 10 hS ?_
            refine T 11 hS ?_
            refine T 12 hS ?_
            refine T 13 hS ?_
            refine T 14 hS ?_
            refine T 15 hS ?_
            refine T 16 hS ?_
            refine T 17 hS ?_
            refine T 18 hS ?_
            refine T 19 hS ?_
            refine wpAnyH_done (by kernel_rfl) ?_ _
            clear hS
            cases bb with
            | true =>
              have HV : Hid (Ca.grE hp hx G m pg = 5) := Lib.hid (by
                have : Ca.longE m.ext hx = 5 := by
                  unfold Ca.longE Ca.extLong
                  rw [if_pos (Ca.any_at (f := fun x => decide (x.1 < hx.length) && decide (hx.getD x.1.toNat 0 < x.2)) HX.out (by
                    rw [Bool.and_eq_true]
                    exact ⟨decide_eq_true (HN3.out.2 x (List.mem_of_getElem? HX.out)), decide_eq_true (by rw [HYv.out]; exact of_decide_eq_true hbb)⟩))]
                unfold Ca.grE
                rw [HN3.out.1, this]
                exact four1 (by decide))
              have hend := HGr.out wd 5 HNb.out HNo.out HV.out (by decide) HWd.out
              go_wp2
              first
                | exact hend
                | (go_ret; exact hend)
            | false =>
              have HBb : Hid (decide (hx.getD x.1.toNat 0 < x.2) = false) := Lib.hid (by rw [HYv.out]; exact hbb)
              have hrel' : ngRel w m (.slice (some ⟨gg, off, none⟩) m.ext.length ec) (.slice po m.ports.length pc) (fun x => decide (hx.getD x.1.toNat 0 < x.2)) (.int .i64 ((i : Int) + 1)) wd := ⟨i + 1, by omega, by go_num, fun k y hk hy => by
                rcases Nat.lt_or_ge k i with q | q
                · exact HNk.out k y q hy
                · obtain rfl : k = i := by omega
                  rw [HX.out] at hy
                  cases hy
                  exact HBb.out, HWd.out, HXd.out⟩
              have HRl := Lib.hid hrel'
              clear hrel'
              go_wp2
              exact ⟨HRl.out, by simp [intOf]; omega⟩
          · have hi1 : ¬ (i : Int) < m.ext.length := by omega
            have HL5 : Hid (Ca.longE m.ext hx = 0) := Lib.hid (by
              unfold Ca.longE Ca.extLong
              rw [Ca.any_no (f := fun x => decide (x.1 < hx.length) && decide (hx.getD x.1.toNat 0 < x.2)) fun k x hk hx' => by
                have h2 := HNk.out k x (by omega) hx'
                have h2 : decide (hx.getD x.1.toNat 0 < x.2) = false := h2
                rw [h2, Bool.and_false]]
              rfl)
            have HBs := Lib.hid (busy (H.out _ hbw) (HMn.out _ hbw))
            unfold Mn.cells at HBs
            clear hno hbw hbx HNk hi hin
            go_wp2_with fail
            refine HBs.out.mono ?_
            rintro e w5 ⟨rfl, hb5⟩
            have HB5 := Lib.hid (below_th HBw.out hb5)
            have HBx5 := Lib.hid (HBx.out.below hb5)
            clear hb5 c0 c1 c2 c3 cf HBs HBw HBx hi1
            obtain ⟨c0, c1, c2, c3, cf⟩ := man_cells HBx5.out
            obtain ⟨bz, hbz⟩ : ∃ b, Gp.busyB G m = b := ⟨_, rfl⟩
            rw [hbz]
            cases bz with
            | true =>
              have HV : Hid (Ca.grE hp hx G m pg = 190) := Lib.hid (by
                have : Ca.busyE G m = 190 := by unfold Ca.busyE; rw [if_pos hbz]
                unfold Ca.grE
                rw [HN3.out.1, HL5.out, this]
                exact four2 (by decide))
              have hend := HGr.out w5 190 HNb.out HNo.out HV.out (by decide) HB5.out
              clear hbz
              go_wp2
              first
                | exact hend
                | (go_ret; exact hend)
            | false =>
              have HBs : Hid (Ca.busyE G m = 0) := Lib.hid (by unfold Ca.busyE; rw [hbz]; rfl)
              clear hbz
              have hmp := Ca.may_num HCk.out
              have p00 := HMo.out.p0
              have wl : IntKind.u32.wrap (m.pages + pg) = m.pages + pg := wrap32 (by omega) (by omega)
              have HFr := Lib.hid fun V (hV : Below w.heap.size w V) => free (H.out V hV)
              unfold Gp.freeV at HFr
              obtain ⟨bf, hbf⟩ : ∃ b, decide (m.pages + pg > hp - Gp.sum G) = b := ⟨_, rfl⟩
              have HMp := Lib.hid hmp
              clear hmp p00
              go_wp2
              refine B (fun V => V.cell? ⟨w.heap.size, 0, none⟩ = some (.int .u32 m.pages)) c0 fun wd hwd hS => ?_
              have HWd : Hid (Below w.heap.size w wd) := Lib.hid (by rw [hwd]; exact HB5.out.drew)
              have HXd : Hid (MBx wd w.heap.size m (.slice eo m.ext.length ec) (.slice po m.ports.length pc)) := Lib.hid (by rw [hwd]; exact HBx5.out.below (Below.refl _ _).drew)
              clear hwd c0 c1 c2 c3 cf HB5 HBx5
              refine T 0 hS ?_
              refine T 1 hS ?_
              refine T 2 hS ?_
              refine T 3 hS ?_
              refine T 4 hS ?_
              refine U 5 fun K hK => ?_
              go_simp
              go_at_call 32
              refine (HFr.out _ HWd.out).mono ?_
              rintro e w6 ⟨rfl, hb6⟩
              have hS6 := cell_below hb6 hS
              have HB6 := Lib.hid (below_th HWd.out hb6)
              have HBx6 := Lib.hid (HXd.out.below hb6)
              clear hb6
              refine V hK hS6 ?_; clear hK K
              refine T 6 hS6 ?_
              refine wpAnyH_done (by kernel_rfl) ?_ _
              clear hS hS6 HWd HXd HFr
              cases bf with
              | true =>
                have HV : Hid (Ca.grE hp hx G m pg = 4) := Lib.hid (by
                  unfold Ca.grE
                  rw [HN3.out.1, HL5.out, HBs.out, four3]
                  exact Ca.full_no (of_decide_eq_true hbf))
                have hend := HGr.out w6 4 HNb.out HNo.out HV.out (by decide) HB6.out
                go_wp2
                first
                  | exact hend
                  | (go_ret; exact hend)
              | false =>
                have HG0 : Hid (Ca.grE hp hx G m pg = 0 ∧ Gp.sum G + (m.pages + pg) ≤ hp) := Lib.hid (by
                  have hq : ¬ hp - Gp.sum G < m.pages + pg := of_decide_eq_false hbf
                  refine ⟨?_, by omega⟩
                  unfold Ca.grE
                  rw [HN3.out.1, HL5.out, HBs.out, four3]
                  exact Ca.full_yes hq)
                have hel := Ca.ext_len hl HMo.out HCk.out HG0.out.1
                have hpl := HMp.out.1
                clear hbf HGr HBs HL5 HN3 wl
                have n1 : 1 ≤ n := by omega
                have n8 : n ≤ 8 := by omega
                obtain ⟨hq0, hq1⟩ := gap (H.out w (Below.refl _ _)) n1 n8 HNo.out
                have HGp := Lib.hid hq1
                have hL8 := (H.out w (Below.refl _ _)).len
                have HCan := Lib.hid fun ev pv => can_put (pg := pg) (m := m) (ev := ev) (pv := pv) (H.out w (Below.refl _ _)) n1 n8 HNo.out
                obtain ⟨q, hq⟩ : ∃ q, (lo G n).length = q := ⟨_, rfl⟩
                rw [hq] at hq0 HGp HCan
                clear hq hq1
                have HR3 : Hid (roRel w a.L q m (.slice eo m.ext.length ec) (.slice po m.ports.length pc) (.slice none 0 0) (.int .i64 0) w6) := Lib.hid ⟨0, by omega, rfl, ⟨none, 0, rfl⟩, SlV.nil _ _ _, fun k hk => (by cases hk), HB6.out, HBx6.out⟩
                have hlvf := (H.out w (Below.refl _ _)).row.form
                obtain ⟨ao, ac, hlv⟩ := hlvf
                have HLv := Lib.hid hlv
                clear hlv HB6 HBx6
                obtain ⟨i0, hi0', hz0, hz1, hz2⟩ := info_parts info_gr
                have hi0 := Lib.hid (And.intro hi0' (And.intro hz0 (And.intro hz1 hz2)))
                clear hi0' hz0 hz1 hz2
                go_wp2
                go_loopw [11, 12] (fun vl vi V => roRel w a.L q m (.slice eo m.ext.length ec) (.slice po m.ports.length pc) vl vi V) (fun _ vi _ => q - (intOf vi).toNat)
                case atStart => exact HR3.out
                case round =>
                  clear HR3
                  obtain ⟨i, hi, rfl, ⟨o, c, rfl⟩, hsl, hown, hbw, hbx⟩ := hrel
                  have h1 := H.out _ hbw
                  have d2 := h1.cells.2.2.1
                  rw [HLv.out] at d2
                  have HSl := Lib.hid hsl
                  have HOw := Lib.hid hown
                  have HBw := Lib.hid hbw
                  have HBx := Lib.hid hbx
                  by_cases hiq : i < q
                  · obtain ⟨x, hx'⟩ : ∃ x, a.L[i]? = some x := ⟨_, List.getElem?_eq_getElem (by omega)⟩
                    have hlt := (HGp.out i x hx').1 hiq
                    have hi1 : (i : Int) < a.L.length := by omega
                    obtain ⟨g, off, cap, hv, hcc⟩ := h1.at' hx'
                    rw [HLv.out] at hv
                    simp only [Value.slice.injEq] at hv
                    obtain ⟨rfl, _, rfl⟩ := hv
                    obtain ⟨x0, x1, x2, x3, x4, x5, x6⟩ := Rcs.seven hcc
                    obtain ⟨⟨xo, xn, xc, hev⟩, ⟨yo, yn, yc, hpv⟩⟩ : (∃ o n c, x.ev = .slice o n c) ∧ ∃ o n c, x.pv = .slice o n c := by
                      have hm := h1.mns x (List.mem_of_getElem? hx')
                      exact ⟨by obtain ⟨o, c, e⟩ := hm.e.form; exact ⟨o, _, c, e⟩, by obtain ⟨o, c, e⟩ := hm.p.form; exact ⟨o, _, c, e⟩⟩
                    have hxc : x.cells = [.int .i64 x.n, .int .u32 x.g.m.pages, .slice xo xn xc, .slice yo yn yc, .bool x.g.m.con, .int .u32 x.g.pg, .int .u32 x.g.took] := by unfold RcE.cells; rw [hev, hpv]
                    rw [hev] at x2
                    rw [hpv] at x3
                    have hb7 : Below wr.heap.size wr (wr.alloc (.cells #[.int .i64 x.n, .int .u32 x.g.m.pages, .slice xo xn xc, .slice yo yn yc, .bool x.g.m.con, .int .u32 x.g.pg, .int .u32 x.g.took] 219)) := (Below.refl _ _).alloc (Nat.le_refl _) _
                    have hk7 := heap_alloc_new wr (.cells #[.int .i64 x.n, .int .u32 x.g.m.pages, .slice xo xn xc, .slice yo yn yc, .bool x.g.m.con, .int .u32 x.g.pg, .int .u32 x.g.took] 219)
                    have HS7 := Lib.hid (HSl.out.below hb7)
                    have HK7 := Lib.hid hk7
                    have HB7 := Lib.hid hb7
                    have HX := Lib.hid (And.intro hx' hxc)
                    clear hsl hown hbw hbx h1 hx' hcc hev hpv hxc hb7 hk7
                    go_wp2_with (at_builtin; refine wpList_append_slv _ rfl _ _ 199 rfl 219 i0 _ 7 80 Tryz.underlying199 hi0.out.1 hi0.out.2.1 hi0.out.2.2.1 hi0.out.2.2.2 rfl (by decide) _ i _ rfl HS7.out ⟨wr.heap.size, 0, none⟩ 1 1 x.cells rfl (by omega) rfl (fun j u hu => by rw [HX.out.2] at hu; rw [Addr.add_lit]; unfold World.cell?; rw [HK7.out]; simpa using hu) (fun u hu => by rw [HX.out.2] at hu; simp at hu; rcases hu with rfl | rfl | rfl | rfl | rfl | rfl | rfl <;> rfl) (by unfold maxLen; omega) (by omega) ?_; intro v8 w8 hl8 hm8 ho8)
                    have hz7 := HB7.out.size
                    have hm8' : Mod (fun k => (Value.slice o i c).ownBlock = some k) wr w8 := (Mod.of_below HB7.out _).same hm8
                    obtain ⟨o8, c8, rfl⟩ := hl8.form
                    have hbw8 : Below w.heap.size w w8 := Mod.below HBw.out hm8' HBw.out.size fun k _ e => by have := (HOw.out k e).1; omega
                    have hrel' : roRel w a.L q m (.slice eo m.ext.length ec) (.slice po m.ports.length pc) (.slice o8 (i + 1) c8) (.int .i64 ((i : Int) + 1)) w8 := ⟨i + 1, by omega, by go_num, ⟨o8, c8, rfl⟩, by rw [take_succ HX.out.1, rcC_app, show rcC [x] = x.cells by unfold rcC; simp]; exact hl8, fun k hk => by
                      have hlt8 : k < w8.heap.size := by
                        obtain ⟨k', h1, h2⟩ := hl8.lt (by omega)
                        rw [h1] at hk; cases hk; exact h2
                      rcases ho8 with z | ⟨k', z, z1⟩
                      · rw [z] at hk
                        exact ⟨(HOw.out k hk).1, hlt8⟩
                      · rw [z] at hk; cases hk
                        have := HBw.out.size
                        have := lt_of_block HBx.out
                        exact ⟨by omega, hlt8⟩, hbw8, (hm8'.block _ (lt_of_block HBx.out) (fun e => by have := (HOw.out _ e).1; omega)).trans HBx.out⟩
                    have HRl := Lib.hid hrel'
                    clear hrel' hl8 hm8 ho8 hm8' hbw8
                    exact ⟨HRl.out, by simp [intOf]; omega⟩
                  · obtain rfl : i = q := by omega
                    obtain ⟨c0', c1', c2', c3', _⟩ := man_cells HBx.out
                    have HCp := Lib.hid (R11.copy (HMn.out _ HBw.out) (by omega) (by omega))
                    unfold Mn.cells at HCp
                    clear hsl hown hbw hbx
                    have hrow := h1.row
                    rw [HLv.out] at hrow
                    have hnc := hrow.ncap
                    by_cases hil : i < a.L.length
                    · obtain ⟨x, hx'⟩ : ∃ x, a.L[i]? = some x := ⟨_, List.getElem?_eq_getElem hil⟩
                      have hgt := (HGp.out i x hx').2 (Nat.le_refl _)
                      have hi1 : (i : Int) < a.L.length := by omega
                      obtain ⟨g, off, cap, hv, hcc⟩ := h1.at' hx'
                      rw [HLv.out] at hv
                      simp only [Value.slice.injEq] at hv
                      obtain ⟨rfl, _, rfl⟩ := hv
                      obtain ⟨x0, _⟩ := Rcs.seven hcc
                      have hng : ¬ x.n < n := by omega
                      have hac : ¬ ac = i := by omega
                      have hic : i ≤ ac := by omega
                      have hil2 : i ≤ a.L.length := by omega
                      clear h1 hx' hcc hrow hgt
                      go_wp2_with fail
                      refine HCp.out.mono ?_
                      rintro e w8 ⟨ev', pv', rfl, hmn8, hnw8, hb8⟩
                      obtain ⟨xo, xc, rfl⟩ := hmn8.e.form
                      obtain ⟨yo, yc, rfl⟩ := hmn8.p.form
                      have hb9 : Below w8.heap.size w8 (w8.alloc (.cells #[.int .i64 n, .int .u32 m.pages, .slice xo m.ext.length xc, .slice yo m.ports.length yc, .bool m.con, .int .u32 pg, .int .u32 0] 219)) := (Below.refl _ _).alloc (Nat.le_refl _) _
                      have hk9 := heap_alloc_new w8 (.cells #[.int .i64 n, .int .u32 m.pages, .slice xo m.ext.length xc, .slice yo m.ports.length yc, .bool m.con, .int .u32 pg, .int .u32 0] 219)
                      have HS9 := Lib.hid ((HSl.out.below hb8).below hb9)
                      have HK9 := Lib.hid hk9
                      have hz8 := hb8.size
                      have HB9 := Lib.hid (below_th (below_th HBw.out hb8) hb9)
                      have HM9 := Lib.hid (And.intro (hmn8.below hb9) hnw8)
                      have HZ9 : Hid (wr.heap.size ≤ w8.heap.size) := Lib.hid hz8
                      clear hmn8 hnw8 hb8 hb9 hk9 hz8 c0' c1' c2' c3' HCp
                      unfold Mn.cells
                      go_wp2_with (at_builtin; first
                        | (refine wpList_append_slv _ rfl _ _ 199 rfl 219 i0 _ 7 80 Tryz.underlying199 hi0.out.1 hi0.out.2.1 hi0.out.2.2.1 hi0.out.2.2.2 rfl (by decide) _ i _ rfl HS9.out ⟨w8.heap.size, 0, none⟩ 1 1 (⟨n, ⟨m, pg, 0⟩, .slice xo m.ext.length xc, .slice yo m.ports.length yc⟩ : RcE).cells rfl (by omega) rfl (fun j u hu => by rw [Addr.add_lit]; unfold World.cell?; rw [HK9.out]; simpa [RcE.cells] using hu) (fun u hu => by simp [RcE.cells] at hu; rcases hu with rfl | rfl | rfl | rfl | rfl | rfl | rfl <;> rfl) (by unfold maxLen; omega) (by omega) ?_
                           intro v10 w10 hl10 hm10 ho10
                           obtain ⟨o10, c10, rfl⟩ := hl10.form
                           have hzw := HBw.out.size
                           have hz89 := HZ9.out
                           have hb10 : Below w.heap.size w w10 := Mod.below HB9.out hm10 HB9.out.size fun k _ e => by have := (HOw.out k e).1; omega
                           have hmz : MnAt w10 (.slice xo m.ext.length xc) (.slice yo m.ports.length yc) m := HM9.out.1.mod hm10 (fun k hk e => by have h1 := HM9.out.2 k (.inl hk); have h2 := HOw.out k e; omega) (fun k hk e => by have h1 := HM9.out.2 k (.inr hk); have h2 := HOw.out k e; omega)
                           have hfin := fin_put (H.out w (Below.refl _ _)) (pg := pg) (m := m) (q := i) (ev := .slice xo m.ext.length xc) (pv := .slice yo m.ports.length yc) (by omega) (HCan.out _ _) (okPut (H.out w (Below.refl _ _)).ok n1 n8 HNo.out HMo.out HCk.out p0 HG0.out.2) hb10 (o9 := o10) (c9 := c10) hl10 (fun k hk => by
                             have hlt10 : k < w10.heap.size := by
                               obtain ⟨k', h1, h2⟩ := hl10.lt (by omega)
                               rw [h1] at hk; cases hk; exact h2
                             rcases ho10 with z | ⟨k', z, z1⟩
                             · rw [z] at hk
                               have := (HOw.out k hk).1
                               exact ⟨by omega, hlt10⟩
                             · rw [z] at hk; cases hk
                               have : w8.heap.size ≤ (w8.alloc (.cells #[.int .i64 n, .int .u32 m.pages, .slice xo m.ext.length xc, .slice yo m.ports.length yc, .bool m.con, .int .u32 pg, .int .u32 0] 219)).heap.size := by simp
                               exact ⟨by omega, hlt10⟩) hmz (fun k hk => by
                             have h1 := HM9.out.2 k hk
                             have h2 := hm10.size
                             have : w8.heap.size ≤ (w8.alloc (.cells #[.int .i64 n, .int .u32 m.pages, .slice xo m.ext.length xc, .slice yo m.ports.length yc, .bool m.con, .int .u32 pg, .int .u32 0] 219)).heap.size := by simp
                             omega) HLv.out (some ⟨g, off + i * 7, none⟩) (ac - i) (fun _ => ⟨g, off, rfl, rfl⟩)
                           obtain ⟨o11, c11, w11, hr11, hc11, hf11, hend11⟩ := hfin
                           have HRun := Lib.hid hr11
                           have HEnd := Lib.hid hend11
                           have d10 := ((H.out _ hb10).cells).2.2.1
                           rw [HLv.out] at d10
                           clear hl10 hm10 ho10 hb10 hmz hr11 hend11 hzw hz89)
                        | refine R11.wpList_append_run rfl _ _ _ rfl rfl rfl HRun.out ?_)
                      obtain ⟨a', r1, r2⟩ := HEnd.out
                      have hend := HOk.out _ a' HNb.out HNo.out HG0.out.1 r1 r2
                      clear r1 r2
                      first
                        | exact hend
                        | (go_ret; exact hend)
                    · have HIe : Hid (a.L.length = i) := Lib.hid (by omega)
                      have hil2 : i ≤ a.L.length := by omega
                      have hic : i ≤ ac := by omega
                      have hni : ¬ (i : Int) < a.L.length := by omega
                      have HRo := Lib.hid hrow
                      clear h1 hrow hil
                      rcases ao with _ | ad
                      · skip
                        go_wp2_with fail
                        refine HCp.out.mono ?_
                        rintro e w8 ⟨ev', pv', rfl, hmn8, hnw8, hb8⟩
                        obtain ⟨xo, xc, rfl⟩ := hmn8.e.form
                        obtain ⟨yo, yc, rfl⟩ := hmn8.p.form
                        have hb9 : Below w8.heap.size w8 (w8.alloc (.cells #[.int .i64 n, .int .u32 m.pages, .slice xo m.ext.length xc, .slice yo m.ports.length yc, .bool m.con, .int .u32 pg, .int .u32 0] 219)) := (Below.refl _ _).alloc (Nat.le_refl _) _
                        have hk9 := heap_alloc_new w8 (.cells #[.int .i64 n, .int .u32 m.pages, .slice xo m.ext.length xc, .slice yo m.ports.length yc, .bool m.con, .int .u32 pg, .int .u32 0] 219)
                        have HS9 := Lib.hid ((HSl.out.below hb8).below hb9)
                        have HK9 := Lib.hid hk9
                        have hz8 := hb8.size
                        have HB9 := Lib.hid (below_th (below_th HBw.out hb8) hb9)
                        have HM9 := Lib.hid (And.intro (hmn8.below hb9) hnw8)
                        have HZ9 : Hid (wr.heap.size ≤ w8.heap.size) := Lib.hid hz8
                        clear hmn8 hnw8 hb8 hb9 hk9 hz8 c0' c1' c2' c3' HCp
                        unfold Mn.cells
                        go_wp2_with (at_builtin; first
                          | (refine wpList_append_slv _ rfl _ _ 199 rfl 219 i0 _ 7 80 Tryz.underlying199 hi0.out.1 hi0.out.2.1 hi0.out.2.2.1 hi0.out.2.2.2 rfl (by decide) _ i _ rfl HS9.out ⟨w8.heap.size, 0, none⟩ 1 1 (⟨n, ⟨m, pg, 0⟩, .slice xo m.ext.length xc, .slice yo m.ports.length yc⟩ : RcE).cells rfl (by omega) rfl (fun j u hu => by rw [Addr.add_lit]; unfold World.cell?; rw [HK9.out]; simpa [RcE.cells] using hu) (fun u hu => by simp [RcE.cells] at hu; rcases hu with rfl | rfl | rfl | rfl | rfl | rfl | rfl <;> rfl) (by unfold maxLen; omega) (by omega) ?_
                             intro v10 w10 hl10 hm10 ho10
                             obtain ⟨o10, c10, rfl⟩ := hl10.form
                             have hzw := HBw.out.size
                             have hz89 := HZ9.out
                             have hb10 : Below w.heap.size w w10 := Mod.below HB9.out hm10 HB9.out.size fun k _ e => by have := (HOw.out k e).1; omega
                             have hmz : MnAt w10 (.slice xo m.ext.length xc) (.slice yo m.ports.length yc) m := HM9.out.1.mod hm10 (fun k hk e => by have h1 := HM9.out.2 k (.inl hk); have h2 := HOw.out k e; omega) (fun k hk e => by have h1 := HM9.out.2 k (.inr hk); have h2 := HOw.out k e; omega)
                             have hfin := fin_put (H.out w (Below.refl _ _)) (pg := pg) (m := m) (q := i) (ev := .slice xo m.ext.length xc) (pv := .slice yo m.ports.length yc) (by omega) (HCan.out _ _) (okPut (H.out w (Below.refl _ _)).ok n1 n8 HNo.out HMo.out HCk.out p0 HG0.out.2) hb10 (o9 := o10) (c9 := c10) hl10 (fun k hk => by
                               have hlt10 : k < w10.heap.size := by
                                 obtain ⟨k', h1, h2⟩ := hl10.lt (by omega)
                                 rw [h1] at hk; cases hk; exact h2
                               rcases ho10 with z | ⟨k', z, z1⟩
                               · rw [z] at hk
                                 have := (HOw.out k hk).1
                                 exact ⟨by omega, hlt10⟩
                               · rw [z] at hk; cases hk
                                 have : w8.heap.size ≤ (w8.alloc (.cells #[.int .i64 n, .int .u32 m.pages, .slice xo m.ext.length xc, .slice yo m.ports.length yc, .bool m.con, .int .u32 pg, .int .u32 0] 219)).heap.size := by simp
                                 exact ⟨by omega, hlt10⟩) hmz (fun k hk => by
                               have h1 := HM9.out.2 k hk
                               have h2 := hm10.size
                               have : w8.heap.size ≤ (w8.alloc (.cells #[.int .i64 n, .int .u32 m.pages, .slice xo m.ext.length xc, .slice yo m.ports.length yc, .bool m.con, .int .u32 pg, .int .u32 0] 219)).heap.size := by simp
                               omega) HLv.out (none) (ac - i) (fun hk => absurd hk (by have := HIe.out; omega))
                             obtain ⟨o11, c11, w11, hr11, hc11, hf11, hend11⟩ := hfin
                             have HRun := Lib.hid hr11
                             have HEnd := Lib.hid hend11
                             have d10 := ((H.out _ hb10).cells).2.2.1
                             rw [HLv.out] at d10
                             clear hl10 hm10 ho10 hb10 hmz hr11 hend11 hzw hz89)
                          | refine R11.wpList_append_run rfl _ _ _ rfl rfl rfl HRun.out ?_)
                        obtain ⟨a', r1, r2⟩ := HEnd.out
                        have hend := HOk.out _ a' HNb.out HNo.out HG0.out.1 r1 r2
                        clear r1 r2
                        first
                          | exact hend
                          | (go_ret; exact hend)
                      · by_cases hci : ac = i
                        · skip
                          go_wp2_with fail
                          refine HCp.out.mono ?_
                          rintro e w8 ⟨ev', pv', rfl, hmn8, hnw8, hb8⟩
                          obtain ⟨xo, xc, rfl⟩ := hmn8.e.form
                          obtain ⟨yo, yc, rfl⟩ := hmn8.p.form
                          have hb9 : Below w8.heap.size w8 (w8.alloc (.cells #[.int .i64 n, .int .u32 m.pages, .slice xo m.ext.length xc, .slice yo m.ports.length yc, .bool m.con, .int .u32 pg, .int .u32 0] 219)) := (Below.refl _ _).alloc (Nat.le_refl _) _
                          have hk9 := heap_alloc_new w8 (.cells #[.int .i64 n, .int .u32 m.pages, .slice xo m.ext.length xc, .slice yo m.ports.length yc, .bool m.con, .int .u32 pg, .int .u32 0] 219)
                          have HS9 := Lib.hid ((HSl.out.below hb8).below hb9)
                          have HK9 := Lib.hid hk9
                          have hz8 := hb8.size
                          have HB9 := Lib.hid (below_th (below_th HBw.out hb8) hb9)
                          have HM9 := Lib.hid (And.intro (hmn8.below hb9) hnw8)
                          have HZ9 : Hid (wr.heap.size ≤ w8.heap.size) := Lib.hid hz8
                          clear hmn8 hnw8 hb8 hb9 hk9 hz8 c0' c1' c2' c3' HCp
                          unfold Mn.cells
                          go_wp2_with (at_builtin; first
                            | (refine wpList_append_slv _ rfl _ _ 199 rfl 219 i0 _ 7 80 Tryz.underlying199 hi0.out.1 hi0.out.2.1 hi0.out.2.2.1 hi0.out.2.2.2 rfl (by decide) _ i _ rfl HS9.out ⟨w8.heap.size, 0, none⟩ 1 1 (⟨n, ⟨m, pg, 0⟩, .slice xo m.ext.length xc, .slice yo m.ports.length yc⟩ : RcE).cells rfl (by omega) rfl (fun j u hu => by rw [Addr.add_lit]; unfold World.cell?; rw [HK9.out]; simpa [RcE.cells] using hu) (fun u hu => by simp [RcE.cells] at hu; rcases hu with rfl | rfl | rfl | rfl | rfl | rfl | rfl <;> rfl) (by unfold maxLen; omega) (by omega) ?_
                               intro v10 w10 hl10 hm10 ho10
                               obtain ⟨o10, c10, rfl⟩ := hl10.form
                               have hzw := HBw.out.size
                               have hz89 := HZ9.out
                               have hb10 : Below w.heap.size w w10 := Mod.below HB9.out hm10 HB9.out.size fun k _ e => by have := (HOw.out k e).1; omega
                               have hmz : MnAt w10 (.slice xo m.ext.length xc) (.slice yo m.ports.length yc) m := HM9.out.1.mod hm10 (fun k hk e => by have h1 := HM9.out.2 k (.inl hk); have h2 := HOw.out k e; omega) (fun k hk e => by have h1 := HM9.out.2 k (.inr hk); have h2 := HOw.out k e; omega)
                               have hfin := fin_put (H.out w (Below.refl _ _)) (pg := pg) (m := m) (q := i) (ev := .slice xo m.ext.length xc) (pv := .slice yo m.ports.length yc) (by omega) (HCan.out _ _) (okPut (H.out w (Below.refl _ _)).ok n1 n8 HNo.out HMo.out HCk.out p0 HG0.out.2) hb10 (o9 := o10) (c9 := c10) hl10 (fun k hk => by
                                 have hlt10 : k < w10.heap.size := by
                                   obtain ⟨k', h1, h2⟩ := hl10.lt (by omega)
                                   rw [h1] at hk; cases hk; exact h2
                                 rcases ho10 with z | ⟨k', z, z1⟩
                                 · rw [z] at hk
                                   have := (HOw.out k hk).1
                                   exact ⟨by omega, hlt10⟩
                                 · rw [z] at hk; cases hk
                                   have : w8.heap.size ≤ (w8.alloc (.cells #[.int .i64 n, .int .u32 m.pages, .slice xo m.ext.length xc, .slice yo m.ports.length yc, .bool m.con, .int .u32 pg, .int .u32 0] 219)).heap.size := by simp
                                   exact ⟨by omega, hlt10⟩) hmz (fun k hk => by
                                 have h1 := HM9.out.2 k hk
                                 have h2 := hm10.size
                                 have : w8.heap.size ≤ (w8.alloc (.cells #[.int .i64 n, .int .u32 m.pages, .slice xo m.ext.length xc, .slice yo m.ports.length yc, .bool m.con, .int .u32 pg, .int .u32 0] 219)).heap.size := by simp
                                 omega) HLv.out (some ad) (ac - i) (fun hk => absurd hk (by have := HIe.out; omega))
                               obtain ⟨o11, c11, w11, hr11, hc11, hf11, hend11⟩ := hfin
                               have HRun := Lib.hid hr11
                               have HEnd := Lib.hid hend11
                               have d10 := ((H.out _ hb10).cells).2.2.1
                               rw [HLv.out] at d10
                               clear hl10 hm10 ho10 hb10 hmz hr11 hend11 hzw hz89)
                            | refine R11.wpList_append_run rfl _ _ _ rfl rfl rfl HRun.out ?_)
                          obtain ⟨a', r1, r2⟩ := HEnd.out
                          have hend := HOk.out _ a' HNb.out HNo.out HG0.out.1 r1 r2
                          clear r1 r2
                          first
                            | exact hend
                            | (go_ret; exact hend)

                        · obtain ⟨g, off, rfl⟩ : ∃ g off, ad = ⟨g, off, none⟩ := by
                            rcases HRo.out.2 with ⟨z, a9, z1⟩ | ⟨g, off, c9, cu9, z1, _⟩
                            · simp only [Value.slice.injEq] at z1; have := HIe.out; omega
                            · simp only [Value.slice.injEq, Option.some.injEq] at z1; exact ⟨g, off, z1.1⟩
                          go_wp2_with fail
                          refine HCp.out.mono ?_
                          rintro e w8 ⟨ev', pv', rfl, hmn8, hnw8, hb8⟩
                          obtain ⟨xo, xc, rfl⟩ := hmn8.e.form
                          obtain ⟨yo, yc, rfl⟩ := hmn8.p.form
                          have hb9 : Below w8.heap.size w8 (w8.alloc (.cells #[.int .i64 n, .int .u32 m.pages, .slice xo m.ext.length xc, .slice yo m.ports.length yc, .bool m.con, .int .u32 pg, .int .u32 0] 219)) := (Below.refl _ _).alloc (Nat.le_refl _) _
                          have hk9 := heap_alloc_new w8 (.cells #[.int .i64 n, .int .u32 m.pages, .slice xo m.ext.length xc, .slice yo m.ports.length yc, .bool m.con, .int .u32 pg, .int .u32 0] 219)
                          have HS9 := Lib.hid ((HSl.out.below hb8).below hb9)
                          have HK9 := Lib.hid hk9
                          have hz8 := hb8.size
                          have HB9 := Lib.hid (below_th (below_th HBw.out hb8) hb9)
                          have HM9 := Lib.hid (And.intro (hmn8.below hb9) hnw8)
                          have HZ9 : Hid (wr.heap.size ≤ w8.heap.size) := Lib.hid hz8
                          clear hmn8 hnw8 hb8 hb9 hk9 hz8 c0' c1' c2' c3' HCp
                          unfold Mn.cells
                          go_wp2_with (at_builtin; first
                            | (refine wpList_append_slv _ rfl _ _ 199 rfl 219 i0 _ 7 80 Tryz.underlying199 hi0.out.1 hi0.out.2.1 hi0.out.2.2.1 hi0.out.2.2.2 rfl (by decide) _ i _ rfl HS9.out ⟨w8.heap.size, 0, none⟩ 1 1 (⟨n, ⟨m, pg, 0⟩, .slice xo m.ext.length xc, .slice yo m.ports.length yc⟩ : RcE).cells rfl (by omega) rfl (fun j u hu => by rw [Addr.add_lit]; unfold World.cell?; rw [HK9.out]; simpa [RcE.cells] using hu) (fun u hu => by simp [RcE.cells] at hu; rcases hu with rfl | rfl | rfl | rfl | rfl | rfl | rfl <;> rfl) (by unfold maxLen; omega) (by omega) ?_
                               intro v10 w10 hl10 hm10 ho10
                               obtain ⟨o10, c10, rfl⟩ := hl10.form
                               have hzw := HBw.out.size
                               have hz89 := HZ9.out
                               have hb10 : Below w.heap.size w w10 := Mod.below HB9.out hm10 HB9.out.size fun k _ e => by have := (HOw.out k e).1; omega
                               have hmz : MnAt w10 (.slice xo m.ext.length xc) (.slice yo m.ports.length yc) m := HM9.out.1.mod hm10 (fun k hk e => by have h1 := HM9.out.2 k (.inl hk); have h2 := HOw.out k e; omega) (fun k hk e => by have h1 := HM9.out.2 k (.inr hk); have h2 := HOw.out k e; omega)
                               have hfin := fin_put (H.out w (Below.refl _ _)) (pg := pg) (m := m) (q := i) (ev := .slice xo m.ext.length xc) (pv := .slice yo m.ports.length yc) (by omega) (HCan.out _ _) (okPut (H.out w (Below.refl _ _)).ok n1 n8 HNo.out HMo.out HCk.out p0 HG0.out.2) hb10 (o9 := o10) (c9 := c10) hl10 (fun k hk => by
                                 have hlt10 : k < w10.heap.size := by
                                   obtain ⟨k', h1, h2⟩ := hl10.lt (by omega)
                                   rw [h1] at hk; cases hk; exact h2
                                 rcases ho10 with z | ⟨k', z, z1⟩
                                 · rw [z] at hk
                                   have := (HOw.out k hk).1
                                   exact ⟨by omega, hlt10⟩
                                 · rw [z] at hk; cases hk
                                   have : w8.heap.size ≤ (w8.alloc (.cells #[.int .i64 n, .int .u32 m.pages, .slice xo m.ext.length xc, .slice yo m.ports.length yc, .bool m.con, .int .u32 pg, .int .u32 0] 219)).heap.size := by simp
                                   exact ⟨by omega, hlt10⟩) hmz (fun k hk => by
                                 have h1 := HM9.out.2 k hk
                                 have h2 := hm10.size
                                 have : w8.heap.size ≤ (w8.alloc (.cells #[.int .i64 n, .int .u32 m.pages, .slice xo m.ext.length xc, .slice yo m.ports.length yc, .bool m.con, .int .u32 pg, .int .u32 0] 219)).heap.size := by simp
                                 omega) HLv.out (some ⟨g, off + i * 7, none⟩) (ac - i) (fun hk => absurd hk (by have := HIe.out; omega))
                               obtain ⟨o11, c11, w11, hr11, hc11, hf11, hend11⟩ := hfin
                               have HRun := Lib.hid hr11
                               have HEnd := Lib.hid hend11
                               have d10 := ((H.out _ hb10).cells).2.2.1
                               rw [HLv.out] at d10
                               clear hl10 hm10 ho10 hb10 hmz hr11 hend11 hzw hz89)
                            | refine R11.wpList_append_run rfl _ _ _ rfl rfl rfl HRun.out ?_)
                          obtain ⟨a', r1, r2⟩ := HEnd.out
                          have hend := HOk.out _ a' HNb.out HNo.out HG0.out.1 r1 r2
                          clear r1 r2
                          first
                            | exact hend
                            | (go_ret; exact hend)
end
end Rc
end Go.Proofs.YtgdodbcpnmfnnaaGreat
namespace Go.Proofs.YtgdodbcpnmfnnaaGreat
open Go.RowKit
set_option linter.unusedVariables false
set_option linter.unusedSimpArgs false
namespace Rn
def wt (x : Int × ByteArray) : List Value := [.int .u16 x.1, .string x.2]
def wtC (L : List (Int × ByteArray)) : List Value := L.flatMap wt
def qOf (L : List (Int × ByteArray)) (p : Int) : List ByteArray := (L.filter fun y => y.1 == p).map (·.2)
theorem len_count (L : List (Int × ByteArray)) (hp : ∀ y, y ∈ L → 0 ≤ y.1) (c : Nat) (hq : ∀ x, (qOf L x).length ≤ c) : ∀ n : Nat, (L.filter fun y => decide (y.1 < (n : Int))).length ≤ c * n
  | 0 => by
    have : (L.filter fun y => decide (y.1 < ((0 : Nat) : Int))) = [] := by
      rw [List.filter_eq_nil_iff]
      intro y hy
      have := hp y hy
      simp
      omega
    rw [this]
    exact Nat.zero_le _
  | n + 1 => by
    have ih := len_count L hp c hq n
    have h1 := hq n
    have : (L.filter fun y => decide (y.1 < ((n + 1 : Nat) : Int))).length ≤ (L.filter fun y => decide (y.1 < (n : Int))).length + (qOf L n).length := by
      clear ih h1 hq hp
      unfold qOf
      rw [List.length_map]
      induction L with
      | nil => simp
      | cons y l ihl =>
        by_cases a : y.1 < (n : Int)
        · have b : y.1 < ((n + 1 : Nat) : Int) := by omega
          have d : ¬ y.1 = (n : Int) := by omega
          rw [List.filter_cons_of_pos (by simpa using b), List.filter_cons_of_pos (by simpa using a), List.filter_cons_of_neg (by simpa using d), List.length_cons, List.length_cons]
          omega
        · by_cases d : y.1 = (n : Int)
          · have b : y.1 < ((n + 1 : Nat) : Int) := by omega
            rw [List.filter_cons_of_pos (by simpa using b), List.filter_cons_of_neg (by simpa using a), List.filter_cons_of_pos (by simpa using d), List.length_cons, List.length_cons]
            omega
          · have b : ¬ y.1 < ((n + 1 : Nat) : Int) := by omega
            rw [List.filter_cons_of_neg (by simpa using b), List.filter_cons_of_neg (by simpa using a), List.filter_cons_of_neg (by simpa using d)]
            exact ihl
    rw [Nat.mul_succ]
    omega
theorem len_le {L : List (Int × ByteArray)} (hp : ∀ y, y ∈ L → 0 ≤ y.1 ∧ y.1 < 65536) (hq : ∀ x, (qOf L x).length ≤ 8) : L.length ≤ 524288 := by
  have h := len_count L (fun y hy => (hp y hy).1) 8 hq 65536
  have e : (L.filter fun y => decide (y.1 < ((65536 : Nat) : Int))) = L := by
    rw [List.filter_eq_self]
    intro y hy
    have := (hp y hy).2
    simpa using this
  rw [e] at h
  omega
end Rn
end Go.Proofs.YtgdodbcpnmfnnaaGreat
namespace Go.Proofs.YtgdodbcpnmfnnaaGreat
open Go.RowKit
set_option linter.unusedVariables false
set_option linter.unusedSimpArgs false
structure RnAt where
  rb : Nat
  lv : Value
  sv : Value
  L : List (Int × ByteArray)
structure Rns (w : World) (a : RnAt) (S : Ni.NicS) : Prop where
  head : w.heap[a.rb]? = some (.cells #[a.lv, a.sv, .int .i64 S.gone] 204 (0, 0))
  row : SlV w 381 2 a.lv a.L.length (Rn.wtC a.L)
  out : SlV w 9 1 a.sv S.sent.length (S.sent.map Value.string)
  q : ∀ x, S.q x = Rn.qOf a.L x
  pt : ∀ y, y ∈ a.L → (0 ≤ y.1 ∧ y.1 < 65536) ∧ y.2.size ≤ 128
  q8 : ∀ x, (S.q x).length ≤ 8
  lr : ∀ k, a.lv.ownBlock = some k → k ≠ a.rb ∧ k < w.heap.size ∧ a.sv.ownBlock ≠ some k
  sr : ∀ k, a.sv.ownBlock = some k → k ≠ a.rb ∧ k < w.heap.size
def RnAt.wf (a : RnAt) (k : Nat) : Prop := k = a.rb ∨ a.lv.ownBlock = some k ∨ a.sv.ownBlock = some k
namespace Rns
variable {w w' : World} {a : RnAt} {S : Ni.NicS}
theorem mod {F : Nat → Prop} (h : Rns w a S) (hm : Mod F w w') (hF : ∀ k, a.wf k → ¬ F k) : Rns w' a S :=
  ⟨(hm.block _ (lt_of_block h.head) (hF _ (.inl rfl))).trans h.head, h.row.mod hm fun k hk => hF k (.inr (.inl hk)), h.out.mod hm fun k hk => hF k (.inr (.inr hk)), h.q, h.pt, h.q8, fun k hk => ⟨(h.lr k hk).1, Nat.lt_of_lt_of_le (h.lr k hk).2.1 hm.size, (h.lr k hk).2.2⟩, fun k hk => ⟨(h.sr k hk).1, Nat.lt_of_lt_of_le (h.sr k hk).2 hm.size⟩⟩
theorem cells (h : Rns w a S) : w.cell? ⟨a.rb, 0, none⟩ = some a.lv ∧ w.cell? ⟨a.rb, 1, none⟩ = some a.sv ∧ w.cell? ⟨a.rb, 2, none⟩ = some (.int .i64 S.gone) ∧ ∀ i, w.frozen? ⟨a.rb, i, none⟩ = false := by
  refine ⟨?_, ?_, ?_, fun i => ?_⟩
  · unfold World.cell?; rw [h.head]; rfl
  · unfold World.cell?; rw [h.head]; rfl
  · unfold World.cell?; rw [h.head]; rfl
  · unfold World.frozen?; rw [h.head]; simp
theorem len (h : Rns w a S) : a.L.length ≤ 524288 := Rn.len_le (fun y hy => (h.pt y hy).1) fun x => by rw [← h.q]; exact h.q8 x
end Rns
end Go.Proofs.YtgdodbcpnmfnnaaGreat
namespace Go.Proofs.YtgdodbcpnmfnnaaGreat
open Go.RowKit
set_option linter.unusedVariables false
set_option linter.unusedSimpArgs false
structure RkAt where
  kb : Nat
  c : RcAt
  n : RnAt
  bv : Value
  rows : List Value
  tag : Nat → Nat
def RkAt.wf (a : RkAt) (k : Nat) : Prop := a.tag k ≠ 0 ∧ a.tag k ≠ 5
structure Rkl (w : World) (a : RkAt) (K : Kn) : Prop where
  head : w.heap[a.kb]? = some (.cells #[.pointer (some ⟨a.c.rb, 0, none⟩), .pointer (some ⟨a.n.rb, 0, none⟩), a.bv, .int .u32 K.now] 88 (0, 0))
  hx : RwV w 1 a.c.hv K.hx.length (K.hx.map (Value.int .u32))
  caps : Rcs w a.c K.hp K.g
  nic : Rns w a.n K.N
  len : a.rows.length = K.B.length
  outer : SlV w 64 1 a.bv a.rows.length a.rows
  inner : ∀ (i : Nat) (v : Value) (l : List ByteArray), a.rows[i]? = some v → K.B[i]? = some l → SlV w 9 1 v l.length (l.map .string)
  bl : K.B.length ≤ 16 ∧ ∀ (i : Nat) (l : List ByteArray), K.B[i]? = some l → l.length ≤ 1024
  ok : K.Ok
  t1 : a.tag a.kb = 1
  t2 : ∀ k, a.c.wf k ∨ a.c.rf k → a.tag k = 2
  t3 : ∀ k, a.n.wf k → a.tag k = 3
  t5 : ∀ k, ((K.hx.length ≠ 0 ∧ a.c.hv.ownBlock = some k) ∨ a.bv.ownBlock = some k ∨ ∃ v, v ∈ a.rows ∧ v.ownBlock = some k) → a.tag k = 5
  lt : ∀ k, a.tag k ≠ 0 → k < w.heap.size
namespace Rkl
variable {w w' : World} {a a' : RkAt} {K K' : Kn}
theorem keep {F : Nat → Prop} (h : Rkl w a K) (hm : Mod F w w') (hF : ∀ k, a.tag k ≠ 0 → ¬ F k) : Rkl w' a K :=
  { h with
    head := (hm.block _ (lt_of_block h.head) (hF _ (by rw [h.t1]; decide))).trans h.head
    hx := h.hx.mod hm fun k hn hk => hF k (by rw [h.t5 k (.inl ⟨hn, hk⟩)]; decide)
    caps := h.caps.mod hm fun k hk => hF k (by rw [h.t2 k hk]; decide)
    nic := h.nic.mod hm fun k hk => hF k (by rw [h.t3 k hk]; decide)
    outer := h.outer.mod hm fun k hk => hF k (by rw [h.t5 k (.inr (.inl hk))]; decide)
    inner := fun i v l hv hl => (h.inner i v l hv hl).mod hm fun k hk => hF k (by rw [h.t5 k (.inr (.inr ⟨v, List.mem_of_getElem? hv, hk⟩))]; decide)
    lt := fun k hk => Nat.lt_of_lt_of_le (h.lt k hk) hm.size }
theorem below (h : Rkl w a K) (hb : Below w.heap.size w w') : Rkl w' a K := h.keep (Mod.of_below hb (fun _ => False)) fun _ _ q => q
theorem cells (h : Rkl w a K) : w.cell? ⟨a.kb, 0, none⟩ = some (.pointer (some ⟨a.c.rb, 0, none⟩)) ∧ w.cell? ⟨a.kb, 1, none⟩ = some (.pointer (some ⟨a.n.rb, 0, none⟩)) ∧ w.cell? ⟨a.kb, 2, none⟩ = some a.bv ∧ w.cell? ⟨a.kb, 3, none⟩ = some (.int .u32 K.now) := by
  refine ⟨?_, ?_, ?_, ?_⟩
  all_goals
    unfold World.cell?
    rw [h.head]
    rfl
end Rkl
structure RkStep (w w' : World) (a : RkAt) (K : Kn) (a' : RkAt) (K' : Kn) : Prop where
  k : Rkl w' a' K'
  same : a'.kb = a.kb ∧ a'.c.rb = a.c.rb ∧ a'.n.rb = a.n.rb
  mod : Mod a.wf w w'
  tag : ∀ k, k < w.heap.size → a'.tag k = a.tag k
namespace RkStep
variable {w w' w'' : World} {a a' a'' : RkAt} {K K' K'' : Kn}
theorem wfoot (s : RkStep w w' a K a' K') (k : Nat) (hk : a'.wf k) : a.wf k ∨ w.heap.size ≤ k := by
  rcases Nat.lt_or_ge k w.heap.size with g | g
  · exact .inl (by unfold RkAt.wf; rw [← s.tag k g]; exact hk)
  · exact .inr g
theorem trans (s : RkStep w w' a K a' K') (t : RkStep w' w'' a' K' a'' K'') : RkStep w w'' a K a'' K'' :=
  ⟨t.k, ⟨t.same.1.trans s.same.1, t.same.2.1.trans s.same.2.1, t.same.2.2.trans s.same.2.2⟩, s.mod.trans t.mod fun i _ g => s.wfoot i g, fun k hk => (t.tag k (Nat.lt_of_lt_of_le hk s.mod.size)).trans (s.tag k hk)⟩
theorem setCaps (h : Rkl w a K) {c : RcAt} {G : Int → Option Gr} (hc : Rcs w' c K.hp G) (hr : c.rb = a.c.rb) (hv : c.hv = a.c.hv) (hf : ∀ k, c.wf k ∨ c.rf k → (a.c.wf k ∨ a.c.rf k) ∨ w.heap.size ≤ k ∧ k < w'.heap.size) (hm : Mod (fun k => a.c.wf k ∨ a.c.rf k) w w') : RkStep w w' a K { a with c := c, tag := KStep.grow w w' a.tag 2 } { K with g := G } := by
  have ne : ∀ k, a.tag k ≠ 2 → ¬ (a.c.wf k ∨ a.c.rf k) := fun k hk e => hk (h.t2 k e)
  have old : ∀ k, a.tag k ≠ 0 → KStep.grow w w' a.tag 2 k = a.tag k := fun k hk => KStep.grow_old (h.lt k hk)
  have hR : Rkl w' { a with c := c, tag := KStep.grow w w' a.tag 2 } { K with g := G } :=
          { head := by rw [hr]; exact (hm.block _ (lt_of_block h.head) (ne _ (by rw [h.t1]; decide))).trans h.head
            hx := by rw [hv]; exact h.hx.mod hm fun k hn hk => ne k (by rw [h.t5 k (.inl ⟨hn, hk⟩)]; decide)
            caps := hc
            nic := h.nic.mod hm fun k hk => ne k (by rw [h.t3 k hk]; decide)
            len := h.len
            outer := h.outer.mod hm fun k hk => ne k (by rw [h.t5 k (.inr (.inl hk))]; decide)
            inner := fun i v l hv hl => (h.inner i v l hv hl).mod hm fun k hk => ne k (by rw [h.t5 k (.inr (.inr ⟨v, List.mem_of_getElem? hv, hk⟩))]; decide)
            bl := h.bl
            ok := ⟨h.ok.n0, h.ok.n1, h.ok.bs, h.ok.q, h.ok.hl, h.ok.g0⟩
            t1 := by show KStep.grow w w' a.tag 2 a.kb = 1; rw [old _ (by rw [h.t1]; decide)]; exact h.t1
            t2 := fun k hk => by
              show KStep.grow w w' a.tag 2 k = 2
              rcases hf k hk with z | ⟨z1, z2⟩
              · rw [old _ (by rw [h.t2 k z]; decide)]; exact h.t2 k z
              · unfold KStep.grow; rw [if_neg (by omega), if_pos z2]
            t3 := fun k hk => by show KStep.grow w w' a.tag 2 k = 3; rw [old _ (by rw [h.t3 k hk]; decide)]; exact h.t3 k hk
            t5 := fun k hk => by
              have hk' : (K.hx.length ≠ 0 ∧ a.c.hv.ownBlock = some k) ∨ a.bv.ownBlock = some k ∨ ∃ v, v ∈ a.rows ∧ v.ownBlock = some k := by rw [← hv]; exact hk
              show KStep.grow w w' a.tag 2 k = 5
              rw [old _ (by rw [h.t5 k hk']; decide)]; exact h.t5 k hk'
            lt := fun k hk => by
              have hk : KStep.grow w w' a.tag 2 k ≠ 0 := hk
              unfold KStep.grow at hk
              have := hm.size
              split at hk
              · omega
              · split at hk
                · assumption
                · exact absurd rfl hk }
  refine ⟨hR, ⟨rfl, hr, rfl⟩, hm.mono fun k _ e => ⟨by rw [h.t2 k e]; decide, by rw [h.t2 k e]; decide⟩, fun k hk => KStep.grow_old hk⟩
end RkStep
end Go.Proofs.YtgdodbcpnmfnnaaGreat
