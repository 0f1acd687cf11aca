/- Tsk: Tsk, KnW in one text. -/
import Derived.Test.YtdmoohiepnbdaaaGreatEnKnM
import Derived.Test.YtdmoohiepnbdaaaGreatEnMade06
import Derived.Deep.RegionHeld3
namespace Go.Proofs.YtdmoohiepnbdaaaGreat
open Go.RowKit Word
set_option linter.unusedVariables false
set_option linter.unusedSimpArgs false
section
variable {P : Program} {ops : Array Oper} {Q : Exit → Act → World → Prop} {md : Region.Mode} {S T : World → Prop}
theorem H_one {l : List Oper} {i : Nat} {o : Oper} {fuel : Nat} {listed : Array Bool} {a : Act} {w : World} (hr : Region.ready md l.toArray listed = [i]) (ho : l[i]? = some o)
    (h : ∀ K' : Act → World → Prop, Shut (∀ a w, S w → (S w → wpAnyH P md l.toArray Q S fuel (listed.setIfInBounds i true) a w) → K' a w) → if Region.wanted o (yielded l.toArray a.tmps) = true then Oper.wp P o a w K' Q else K' (a.put o.dst undef) w) :
    wpAnyH P md l.toArray Q S (fuel + 1) listed a w :=
  wpAnyH_ready hr (by simp) (AllReadyH.cons (by rw [List.getElem?_toArray]; exact ho) h AllReadyH.nil)
theorem H_take {l : List Oper} {i : Nat} {oi : Oper} {v : Value} {fuel : Nat} {listed : Array Bool} {a : Act} {w : World} (hi : l[i]? = some oi)
    (hs : Region.noSelect l.toArray = true) (hf : Region.free md l.toArray listed i = true) (hr : (Region.ready md l.toArray listed).contains i = true)
    (hQ : ∀ c a w, Q (.panic c) (a.put oi.dst v) w → Q (.panic c) a w) (hy : YieldsIf P l.toArray S oi v a) (hS : S w)
    (h : wpAnyH P md l.toArray Q S fuel (listed.setIfInBounds i true) (a.put oi.dst v) w) : wpAnyH P md l.toArray Q S (fuel + 1) listed a w :=
  wpAnyH_take (by rw [List.getElem?_toArray]; exact hi) hs hf hr hQ hy hS h
end
structure KE (w : World) (a : KAt) (K : Kn) (e : EAt) (E : En) : Prop where
  kn : Knl w a K
  en : Env w e E
  apart : ∀ x, e.foot E.A x → a.tag x = 0
structure JStep (W w : World) (a0 : KAt) (e0 : EAt) (A0 : List Pg) (a : KAt) (K : Kn) (e : EAt) (E : En) : Prop where
  j : KE w a K e E
  same : (a.kb = a0.kb ∧ a.c.cb = a0.c.cb ∧ a.nb = a0.nb) ∧ e.eb = e0.eb ∧ e.sb = e0.sb ∧ e.mb = e0.mb ∧ e.cb = e0.cb
  mod : Mod (fun x => a0.wf x ∨ e0.foot A0 x) W w
  tag : ∀ k, k < W.heap.size → a.tag k = a0.tag k
  foot : ∀ k, e.foot E.A k → e0.foot A0 k ∨ W.heap.size ≤ k
namespace KE
variable {w w' : World} {a a' : KAt} {K K' : Kn} {e e' : EAt} {E E' : En}
theorem below (h : KE w a K e E) (hb : Below w.heap.size w w') : KE w' a K e E := ⟨h.kn.below hb, h.en.below hb, h.apart⟩
theorem left (h : KE w a K e E) (s : KStep w w' a K a' K') : KE w' a' K' e E :=
  ⟨s.k, h.en.keep s.mod fun x hx g => g.1 (h.apart x hx), fun x hx => (s.tag x (h.en.lt x hx)).trans (h.apart x hx)⟩
theorem right (h : KE w a K e E) (s : EStep w w' e E e' E') : KE w' a K e' E' :=
  ⟨h.kn.keep s.mod fun x hx g => hx (h.apart x g), s.env, fun x hx => by
    rcases s.foot x hx with g | g
    · exact h.apart x g
    · exact Decidable.byContradiction fun q => absurd (h.kn.lt x q) (by omega)⟩
end KE
namespace JStep
variable {W w w' : World} {a0 a a' : KAt} {K K' : Kn} {e0 e e' : EAt} {A0 : List Pg} {E E' : En}
theorem refl (h : KE w a K e E) : JStep w w a e E.A a K e E := ⟨h, ⟨⟨rfl, rfl, rfl⟩, rfl, rfl, rfl, rfl⟩, Mod.refl _ _, fun _ _ => rfl, fun _ g => .inl g⟩
theorem below (h : JStep W w a0 e0 A0 a K e E) (hb : Below w.heap.size w w') : JStep W w' a0 e0 A0 a K e E :=
  { h with j := h.j.below hb, mod := h.mod.trans (Mod.of_below hb (fun _ => False)) fun _ _ g => g.elim }
theorem left (h : JStep W w a0 e0 A0 a K e E) (s : KStep w w' a K a' K') : JStep W w' a0 e0 A0 a' K' e E where
  j := h.j.left s
  same := ⟨⟨s.same.1.trans h.same.1.1, s.same.2.1.trans h.same.1.2.1, s.same.2.2.trans h.same.1.2.2⟩, h.same.2⟩
  mod := h.mod.trans s.mod fun i _ g => by
    rcases Nat.lt_or_ge i W.heap.size with q | q
    · exact .inl (.inl ⟨by rw [← h.tag i q]; exact g.1, by rw [← h.tag i q]; exact g.2⟩)
    · exact .inr q
  tag := fun k hk => (s.tag k (Nat.lt_of_lt_of_le hk h.mod.size)).trans (h.tag k hk)
  foot := h.foot
theorem right (h : JStep W w a0 e0 A0 a K e E) (s : EStep w w' e E e' E') : JStep W w' a0 e0 A0 a K e' E' where
  j := h.j.right s
  same := ⟨h.same.1, s.same.1.trans h.same.2.1, s.same.2.1.trans h.same.2.2.1, s.same.2.2.1.trans h.same.2.2.2.1, s.same.2.2.2.trans h.same.2.2.2.2⟩
  mod := h.mod.trans s.mod fun i _ g => (h.foot i g).imp .inr id
  tag := h.tag
  foot := fun k hk => (s.foot k hk).elim (h.foot k) fun q => .inr (Nat.le_trans h.mod.size q)
theorem turn {F : Nat → Prop} (h : JStep W w a0 e0 A0 a K e E) (hm : Mod F w w') (hF : ∀ k, F k → a.tag k = 0 ∧ ¬ e.foot E.A k ∧ W.heap.size ≤ k) : JStep W w' a0 e0 A0 a K e E where
  j := ⟨h.j.kn.keep hm fun x hx g => hx (hF x g).1, h.j.en.keep hm fun x hx g => (hF x g).2.1 hx, h.j.apart⟩
  same := h.same
  mod := h.mod.trans hm fun i _ g => .inr (hF i g).2.2
  tag := h.tag
  foot := h.foot
end JStep
structure Evt where
  kind : Int
  env : Int
  text : ByteArray
  num : Int
  seen : Bool
def Evt.none : Evt := ⟨0, 0, ByteArray.empty, 0, false⟩
structure Tk (W w : World) (tb : Nat) (a0 : KAt) (e0 : EAt) (A0 : List Pg) (a : KAt) (K : Kn) (e : EAt) (E : En) (x : Evt) : Prop where
  s : JStep W w a0 e0 A0 a K e E
  blk : w.heap[tb]? = some (.cells #[.pointer (some ⟨a.kb, 0, none⟩), .pointer (some ⟨e.eb, 0, none⟩), .int .u8 x.kind, .int .i64 x.env, .string x.text, .int .u32 x.num, .bool x.seen] 329 (0, 0))
  ta : a.tag tb = 0
  te : ¬ e.foot E.A tb
  t0 : W.heap.size ≤ tb
  n1 : E.num = 1
namespace Tk
variable {W w w' : World} {tb : Nat} {a0 a a' : KAt} {K K' : Kn} {e0 e e' : EAt} {A0 : List Pg} {E E' : En} {x : Evt}
theorem below (h : Tk W w tb a0 e0 A0 a K e E x) (hb : Below w.heap.size w w') : Tk W w' tb a0 e0 A0 a K e E x :=
  { h with s := h.s.below hb, blk := (hb.block _ (lt_of_block h.blk)).trans h.blk }
theorem left (h : Tk W w tb a0 e0 A0 a K e E x) (s : KStep w w' a K a' K') : Tk W w' tb a0 e0 A0 a' K' e E x where
  s := h.s.left s
  blk := (s.mod.block _ (lt_of_block h.blk) fun g => g.1 h.ta).trans (by rw [s.same.1]; exact h.blk)
  ta := (s.tag _ (lt_of_block h.blk)).trans h.ta
  te := h.te
  t0 := h.t0
  n1 := h.n1
theorem right (h : Tk W w tb a0 e0 A0 a K e E x) (s : EStep w w' e E e' E') (hn : E'.num = E.num) : Tk W w' tb a0 e0 A0 a K e' E' x where
  s := h.s.right s
  blk := (s.mod.block _ (lt_of_block h.blk) h.te).trans (by rw [s.same.1]; exact h.blk)
  ta := h.ta
  te := fun g => (s.foot _ g).elim h.te fun q => by have := lt_of_block h.blk; omega
  t0 := h.t0
  n1 := hn.trans h.n1
theorem cell (h : Tk W w tb a0 e0 A0 a K e E x) (i : Nat) (v : Value) (hi : #[Value.pointer (some ⟨a.kb, 0, Option.none⟩), .pointer (some ⟨e.eb, 0, Option.none⟩), .int .u8 x.kind, .int .i64 x.env, .string x.text, .int .u32 x.num, .bool x.seen][i]? = some v) : w.cell? ⟨tb, i, Option.none⟩ = some v := by
  unfold World.cell?
  rw [h.blk]
  exact hi
theorem cells (h : Tk W w tb a0 e0 A0 a K e E x) : w.cell? ⟨tb, 0, Option.none⟩ = some (.pointer (some ⟨a.kb, 0, Option.none⟩)) ∧ w.cell? ⟨tb, 1, Option.none⟩ = some (.pointer (some ⟨e.eb, 0, Option.none⟩)) :=
  ⟨h.cell 0 _ rfl, h.cell 1 _ rfl⟩
theorem all (h : Tk W w tb a0 e0 A0 a K e E x) : w.cell? ⟨tb, 0, Option.none⟩ = some (.pointer (some ⟨a.kb, 0, Option.none⟩)) ∧ w.cell? ⟨tb, 1, Option.none⟩ = some (.pointer (some ⟨e.eb, 0, Option.none⟩)) ∧ w.cell? ⟨a.kb, 2, Option.none⟩ = some (.pointer (some ⟨a.c.cb, 0, Option.none⟩)) ∧ w.cell? ⟨a.kb, 3, Option.none⟩ = some (.pointer (some ⟨a.nb, 0, Option.none⟩)) ∧ w.cell? ⟨a.kb, 5, Option.none⟩ = some (.int .u32 K.now) :=
  ⟨h.cell 0 _ rfl, h.cell 1 _ rfl, h.s.j.kn.cell 2 _ rfl, h.s.j.kn.cell 3 _ rfl, h.s.j.kn.cell 5 _ rfl⟩
theorem free (h : Tk W w tb a0 e0 A0 a K e E x) (i : Nat) : w.frozen? ⟨tb, i, Option.none⟩ = false := by
  unfold World.frozen?
  rw [h.blk]
  simp
def put (w : World) (tb : Nat) (y : Evt) : World := ((((w.setCell ⟨tb, 2, Option.none⟩ (.int .u8 y.kind)).setCell ⟨tb, 3, Option.none⟩ (.int .i64 y.env)).setCell ⟨tb, 4, Option.none⟩ (.string y.text)).setCell ⟨tb, 5, Option.none⟩ (.int .u32 y.num)).setCell ⟨tb, 6, Option.none⟩ (.bool y.seen)
theorem show' (h : Tk W w tb a0 e0 A0 a K e E x) (y : Evt) : Tk W (put w tb y) tb a0 e0 A0 a K e E y := by
  have hm : Mod (fun i => i = tb) w (put w tb y) := Mod.setCell (F := fun i => i = tb) (Mod.setCell (F := fun i => i = tb) (Mod.setCell (F := fun i => i = tb) (Mod.setCell (F := fun i => i = tb) (Mod.setCell (F := fun i => i = tb) (Mod.refl _ _) ⟨tb, 2, Option.none⟩ (.inl rfl) _) ⟨tb, 3, Option.none⟩ (.inl rfl) _) ⟨tb, 4, Option.none⟩ (.inl rfl) _) ⟨tb, 5, Option.none⟩ (.inl rfl) _) ⟨tb, 6, Option.none⟩ (.inl rfl) _
  have b1 := heap_setCell_same w tb 2 _ _ (.int .u8 y.kind) h.blk
  have b2 := heap_setCell_same _ tb 3 _ _ (.int .i64 y.env) b1
  have b3 := heap_setCell_same _ tb 4 _ _ (.string y.text) b2
  have b4 := heap_setCell_same _ tb 5 _ _ (.int .u32 y.num) b3
  have b5 := heap_setCell_same _ tb 6 _ _ (.bool y.seen) b4
  exact ⟨h.s.turn hm fun k hk => by subst hk; exact ⟨h.ta, h.te, h.t0⟩, b5, h.ta, h.te, h.t0, h.n1⟩
end Tk
def evOf (x : Evt) (c : Co) : Evt := if c.ev = 0 then x else ⟨c.ev, 1, c.s, 0, true⟩
def CallPost (W : World) (tb : Nat) (a0 : KAt) (e0 : EAt) (A0 : List Pg) (x : Evt) (f : Nat → Co) (e : Ending) (w' : World) : Prop :=
  ∃ blk a' e', e = .returned (.tuple #[.int .u32 (f blk).v, .int .u32 (f blk).y]) ∧ Tk W w' tb a0 e0 A0 a' (f blk).K e' (f blk).E (evOf x (f blk))
theorem arg_bd {w : World} {a : EAt} {E : En} (h : Env w a E) (n : Int) : 0 ≤ E.arg n ∧ E.arg n ≤ 4294967295 := by
  unfold En.arg
  split
  · exact Cp.rg_bd h.cp.regs n
  · omega
theorem fin_no {W w : World} {tb : Nat} {a0 a : KAt} {K : Kn} {e0 e : EAt} {A0 : List Pg} {E : En} {x : Evt} (h : Tk W w tb a0 e0 A0 a K e E x) {f : Nat → Co} (y : Int) (hf : ∀ b, f b = Co.no K E y) : CallPost W tb a0 e0 A0 x f (.returned (.tuple #[.int .u32 0, .int .u32 y])) w :=
  ⟨0, a, e, by rw [hf]; rfl, by rw [hf]; exact h⟩
theorem fin_of {W V : World} {tb : Nat} {a0 a' : KAt} {e0 e' : EAt} {A0 : List Pg} {x : Evt} {f : Nat → Co} {c : Co} (b : Nat) (hf : f b = c) (h : Tk W V tb a0 e0 A0 a' c.K e' c.E (evOf x c)) : CallPost W tb a0 e0 A0 x f (.returned (.tuple #[.int .u32 c.v, .int .u32 c.y])) V :=
  ⟨b, a', e', by rw [hf], by rw [hf]; exact h⟩
theorem put_num (E : En) (s : ByteArray) : (E.put s).num = E.num := by unfold En.put; split <;> rfl
theorem put_same {E : En} {s : ByteArray} (h : E.putE s ≠ 0) : E.put s = E := by unfold En.put; rw [if_pos h]
theorem getS_size {A : List Pg} {x n : Int} (n0 : 0 ≤ n) (h : Sp.getE A x n 1 = 0) : (Sp.getS A x n 1).size = n.toNat := by
  unfold Sp.getE at h
  unfold Sp.getS
  split at h
  · cases h
  · rename_i q
    rw [if_neg q]
    unfold Sp.fitsE at h
    split at h
    · rename_i q2
      rw [if_pos q2]
      have := strOfNums_size (Sp.getL A x n.toNat)
      rw [this, Sp.getL_length]
    · cases h
end Go.Proofs.YtdmoohiepnbdaaaGreat
namespace Go.Proofs.YtdmoohiepnbdaaaGreat
open Go.RowKit
set_option linter.unusedVariables false
set_option linter.unusedSimpArgs false
theorem Kn.block_some {B : List (List ByteArray)} {id n : Int} {s : ByteArray} (h : Kn.block B id n = some s) : ∃ (i j : Nat) (l : List ByteArray), id = i ∧ n = j ∧ B[i]? = some l ∧ l[j]? = some s := by
  unfold Kn.block at h
  split at h
  · rename_i hc
    obtain ⟨i, rfl⟩ := Int.eq_ofNat_of_zero_le hc.1
    obtain ⟨j, rfl⟩ := Int.eq_ofNat_of_zero_le hc.2
    rw [Option.bind_eq_some_iff] at h
    obtain ⟨l, h1, h2⟩ := h
    exact ⟨i, j, l, rfl, rfl, h1, h2⟩
  · cases h
theorem Kn.block_of {B : List (List ByteArray)} {i j : Nat} {l : List ByteArray} {s : ByteArray} (h1 : B[i]? = some l) (h2 : l[j]? = some s) : Kn.block B i j = some s := by
  unfold Kn.block
  rw [if_pos ⟨by omega, by omega⟩, Int.toNat_natCast, Int.toNat_natCast, h1]
  exact h2
namespace Kl
theorem row_at {w : World} {a : KAt} {K : Kn} (h : Knl w a K) {i : Nat} {l : List ByteArray} (hl : K.B[i]? = some l) : ∃ bg boff bc ra rc, a.bv = .slice (some ⟨bg, boff, none⟩) K.B.length bc ∧ a.rows[i]? = some (.slice ra l.length rc) ∧ w.cell? ⟨bg, boff + i, none⟩ = some (.slice ra l.length rc) ∧ SlV w 9 1 (.slice ra l.length rc) l.length (l.map .string) := by
  have hi := (List.getElem?_eq_some_iff.1 hl).1
  have hi' : i < a.rows.length := by rw [h.len]; exact hi
  have hr : a.rows[i]? = some a.rows[i] := List.getElem?_eq_getElem hi'
  have hin := h.inner i _ l hr hl
  obtain ⟨ra, rc, hv⟩ := hin.form
  rw [hv] at hr hin
  have ho := h.outer
  rcases ho.2 with ⟨h0, _⟩ | ⟨g, off, cap, cur, hb, hg, _⟩
  · have := h.len; omega
  · rw [hb] at ho
    exact ⟨g, off, cap, ra, rc, by rw [hb, h.len], hr, by rw [ho.cell i (by have := h.len; omega)]; exact hr, hin⟩
theorem len_bd {w : World} {a : KAt} {K : Kn} (h : Knl w a K) : K.B.length ≤ 9223372036854775807 := by
  have := slv_len h.outer
  unfold maxLen at this
  have := h.len
  omega
section
variable {w : World} {a : KAt} {K : Kn}
set_option maxRecDepth 100000 in
set_option maxHeartbeats 4000000 in
theorem find_some (h : Knl w a K) {i j : Nat} {l : List ByteArray} {s : ByteArray} (hl : K.B[i]? = some l) (hs : l[j]? = some s) (hi0 : i ≤ 4294967295) (hj0 : j ≤ 4294967295) :
    Calls Tryz.prog 186 #[.pointer (some ⟨a.kb, 0, none⟩), .int .u32 i, .int .u32 j] w fun e w' => ∃ g off cap, e = .returned (.pointer (some ⟨g, off + j, none⟩)) ∧ w = w' ∧ a.rows[i]? = some (.slice (some ⟨g, off, none⟩) l.length cap) ∧ w.cell? ⟨g, off + j, none⟩ = some (.string s) := by
  have hn := len_bd h
  obtain ⟨bg, boff, bc, ra, rc, hbv, hr, hrc, hin⟩ := row_at h hl
  have hi := (List.getElem?_eq_some_iff.1 hl).1
  have hj := (List.getElem?_eq_some_iff.1 hs).1
  obtain ⟨g, off, rfl⟩ : ∃ g off, ra = some ⟨g, off, none⟩ := by
    rcases hin.2 with ⟨h0, _⟩ | ⟨g, off, cap, cur, hv, _⟩
    · omega
    · simp only [Value.slice.injEq] at hv; exact ⟨g, off, hv.1⟩
  have hln : l.length ≤ 9223372036854775807 := by have := slv_len hin; unfold maxLen at this; omega
  have hcs : w.cell? ⟨g, off + j, none⟩ = some (.string s) := by rw [hin.cell j (by omega), List.getElem?_map, hs]; rfl
  have hb := (h.cells).2.2.2.2.1
  rw [hbv] at hb
  have HR : Hid (a.rows[i]? = some (.slice (some ⟨g, off, none⟩) l.length rc) ∧ w.cell? ⟨g, off + j, none⟩ = some (.string s)) := Lib.hid ⟨hr, hcs⟩
  have g1 : decide (K.B.length ≤ i) = false := decide_eq_false (by omega)
  have g2 : decide (l.length ≤ j) = false := decide_eq_false (by omega)
  generalize K.B.length = n at *
  generalize hll : l.length = m at *
  clear h hl hs hr hin hbv hcs hll
  go_enter Tryz.func186, Tryz.ntmps186
  go_wp2
  go_ret
  exact ⟨g, off, rc, rfl, rfl, HR.out⟩
set_option maxRecDepth 100000 in
set_option maxHeartbeats 4000000 in
theorem find_none (h : Knl w a K) {id n : Int} (hb : Kn.block K.B id n = none) (i0 : 0 ≤ id) (i1 : id ≤ 4294967295) (n0 : 0 ≤ n) (n1 : n ≤ 4294967295) :
    Calls Tryz.prog 186 #[.pointer (some ⟨a.kb, 0, none⟩), .int .u32 id, .int .u32 n] w fun e w' => e = .returned (.pointer none) ∧ w = w' := by
  have hn := len_bd h
  obtain ⟨i, rfl⟩ := Int.eq_ofNat_of_zero_le i0
  obtain ⟨j, rfl⟩ := Int.eq_ofNat_of_zero_le n0
  have hbv := (h.cells).2.2.2.2.1
  by_cases hi : i < K.B.length
  · have hl : K.B[i]? = some K.B[i] := List.getElem?_eq_getElem hi
    obtain ⟨bg, boff, bc, ra, rc, hbe, hr, hrc, hin⟩ := row_at h hl
    have hj : ¬ j < K.B[i].length := fun q => by
      rw [Kn.block_of hl (List.getElem?_eq_getElem q)] at hb
      cases hb
    rw [hbe] at hbv
    have hln : K.B[i].length ≤ 9223372036854775807 := by have := slv_len hin; unfold maxLen at this; omega
    have g1 : decide (K.B.length ≤ i) = false := decide_eq_false (by omega)
    have g2 : decide (K.B[i].length ≤ j) = true := decide_eq_true (by omega)
    obtain ⟨m, hm⟩ : ∃ m, K.B[i].length = m := ⟨_, rfl⟩
    rw [hm] at hrc hln g2
    clear h hl hr hin hbe hb hj hm
    generalize K.B.length = n at *
    go_enter Tryz.func186, Tryz.ntmps186
    go_wp2
    go_ret
    exact ⟨rfl, rfl⟩
  · obtain ⟨ba, bc, hbe⟩ := h.outer.form
    rw [hbe, h.len] at hbv
    have g1 : decide (K.B.length ≤ i) = true := decide_eq_true (by omega)
    generalize K.B.length = n at *
    clear h hbe hb
    go_enter Tryz.func186, Tryz.ntmps186
    go_wp2
    go_ret
    exact ⟨rfl, rfl⟩
def blkS (o : Option ByteArray) : ByteArray := o.getD ByteArray.empty
def blkE (o : Option ByteArray) : Int := match o with | none => 2 | some _ => 0
theorem block (h : Knl w a K) (id n : Int) (i0 : 0 ≤ id) (i1 : id ≤ 4294967295) (n0 : 0 ≤ n) (n1 : n ≤ 4294967295) :
    Calls Tryz.prog 106 #[.pointer (some ⟨a.kb, 0, none⟩), .int .u32 id, .int .u32 n] w fun e w' => e = .returned (.tuple #[.string (blkS (Kn.block K.B id n)), .int .i64 (blkE (Kn.block K.B id n))]) ∧ w = w' := by
  cases hb : Kn.block K.B id n with
  | none =>
    have H := Lib.hid (find_none h hb i0 i1 n0 n1)
    clear h hb
    go_enter Tryz.func106, Tryz.ntmps106
    go_wp2_with fail
    refine H.out.mono ?_
    rintro e w1 ⟨rfl, rfl⟩
    go_wp2
    go_ret2
    exact ⟨rfl, rfl⟩
  | some s =>
    obtain ⟨i, j, l, rfl, rfl, hl, hs⟩ := Kn.block_some hb
    have H := Lib.hid (find_some h hl hs (by omega) (by omega))
    clear h hb hl hs
    go_enter Tryz.func106, Tryz.ntmps106
    go_wp2_with fail
    refine H.out.mono ?_
    rintro e w1 ⟨g, off, cap, rfl, rfl, _, hc⟩
    go_wp2
    go_ret2
    exact ⟨rfl, rfl⟩
theorem now (h : Knl w a K) : Calls Tryz.prog 122 #[.pointer (some ⟨a.kb, 0, none⟩)] w fun e w' => e = .returned (.int .u32 K.now) ∧ w = w' := by
  obtain ⟨_, _, _, _, _, c5⟩ := h.cells
  clear h
  go_enter Tryz.func122, Tryz.ntmps122
  go_wp2
  go_ret
  exact ⟨rfl, rfl⟩
theorem caps (h : Knl w a K) : Calls Tryz.prog 74 #[.pointer (some ⟨a.kb, 0, none⟩)] w fun e w' => e = .returned (.pointer (some ⟨a.c.cb, 0, none⟩)) ∧ w = w' := by
  obtain ⟨_, _, c2, _, _, _⟩ := h.cells
  clear h
  go_enter Tryz.func74, Tryz.ntmps74
  go_wp2
  go_ret
  exact ⟨rfl, rfl⟩
end
end Kl
end Go.Proofs.YtdmoohiepnbdaaaGreat
