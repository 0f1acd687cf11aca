/- Slv, Rsp in one text. -/
import Derived.Test.YtdmoohiepnbdaaaGreatEnBase
import Derived.ArgAppend
import Derived.Deep.AppendLies
import Derived.Test.YtdmoohiepnbdaaaGreatEnSpcW
namespace Go.Proofs.YtdmoohiepnbdaaaGreat
open Go.RowKit
def SlV (w : World) (e : TypeId) (s : Nat) (v : Value) (n : Nat) (xs : List Value) : Prop :=
  xs.length = n * s ∧
  ((n = 0 ∧ ∃ a, v = .slice a 0 0) ∨
   ∃ g off cap cur, v = .slice (some ⟨g, off, none⟩) n cap ∧ w.heap[g]? = some (.cells cur e (0, 0)) ∧ n ≤ cap ∧ cap ≤ maxLen ∧ off + cap * s ≤ cur.size ∧ ∀ j, j < n * s → cur[off + j]? = xs[j]?)
theorem SlV.nil (w : World) (e : TypeId) (s : Nat) : SlV w e s (.slice none 0 0) 0 [] := ⟨by simp, .inl ⟨rfl, none, rfl⟩⟩
theorem SlV.of_own {w : World} {base : Nat} {e : TypeId} {s : Nat} {v : Value} {n : Nat} {xs : List Value} (h : w.ownsRow base e s v n xs) : SlV w e s v n xs := by
  obtain ⟨hl, h⟩ := h
  refine ⟨hl, ?_⟩
  rcases h with ⟨rfl, hn⟩ | ⟨g, cap, cur, rfl, _, hg, hc, hm, hs, ht⟩
  · subst hn; exact .inl ⟨rfl, none, rfl⟩
  · refine .inr ⟨g, 0, cap, cur, rfl, hg, hc, hm, by omega, fun j hj => ?_⟩
    rw [Nat.zero_add, ← ht, List.getElem?_take_of_lt hj]
    simp
theorem SlV.keep {w w' : World} {e : TypeId} {s : Nat} {v : Value} {n : Nat} {xs : List Value} (h : SlV w e s v n xs) (hk : ∀ g, v.ownBlock = some g → w'.heap[g]? = w.heap[g]?) : SlV w' e s v n xs := by
  obtain ⟨hl, h⟩ := h
  refine ⟨hl, ?_⟩
  rcases h with h | ⟨g, off, cap, cur, rfl, hg, rest⟩
  · exact .inl h
  · exact .inr ⟨g, off, cap, cur, rfl, (hk g rfl).trans hg, rest⟩
theorem SlV.lt {w : World} {e : TypeId} {s : Nat} {v : Value} {n : Nat} {xs : List Value} (h : SlV w e s v n xs) (hn : 0 < n) : ∃ g, v.ownBlock = some g ∧ g < w.heap.size := by
  rcases h.2 with ⟨h0, _⟩ | ⟨g, off, cap, cur, rfl, hg, _⟩
  · omega
  · exact ⟨g, rfl, (Array.getElem?_eq_some_iff.1 hg).1⟩
theorem SlV.form {w : World} {e : TypeId} {s : Nat} {v : Value} {n : Nat} {xs : List Value} (h : SlV w e s v n xs) : ∃ a cap, v = .slice a n cap := by
  rcases h.2 with ⟨rfl, a, rfl⟩ | ⟨g, off, cap, cur, rfl, _⟩
  · exact ⟨a, 0, rfl⟩
  · exact ⟨_, cap, rfl⟩
theorem SlV.cell {w : World} {e : TypeId} {s : Nat} {g off n cap : Nat} {xs : List Value} (h : SlV w e s (.slice (some ⟨g, off, none⟩) n cap) n xs) (j : Nat) (hj : j < n * s) : w.cell? ⟨g, off + j, none⟩ = xs[j]? := by
  rcases h.2 with ⟨rfl, _⟩ | ⟨g', off', cap', cur, hv, hg, _, _, _, hc⟩
  · omega
  · simp only [Value.slice.injEq, Option.some.injEq, Addr.mk.injEq, and_true, true_and] at hv
    obtain ⟨⟨rfl, rfl⟩, rfl⟩ := hv
    rw [← hc j hj]
    unfold World.cell?
    rw [hg]
    rfl
theorem SlV.free {w : World} {e : TypeId} {s : Nat} {g off n cap : Nat} {xs : List Value} (h : SlV w e s (.slice (some ⟨g, off, none⟩) n cap) n xs) (hn : 0 < n) (j : Nat) : w.frozen? ⟨g, j, none⟩ = false := by
  rcases h.2 with ⟨rfl, _⟩ | ⟨g', off', cap', cur, hv, hg, _⟩
  · omega
  · simp only [Value.slice.injEq, Option.some.injEq, Addr.mk.injEq, and_true, true_and] at hv
    obtain ⟨⟨rfl, rfl⟩, rfl⟩ := hv
    unfold World.frozen?
    rw [hg]
    simp
theorem heap_setCells_same (g : Nat) (e : TypeId) : ∀ (news : List Value) (w : World) (k : Nat) (cur : Array Value), w.heap[g]? = some (.cells cur e (0, 0)) → k + news.length ≤ cur.size →
    ∃ cur', (w.setCells g k news).heap[g]? = some (.cells cur' e (0, 0)) ∧ cur'.size = cur.size ∧ (∀ j, j < k → cur'[j]? = cur[j]?) ∧ (∀ j, j < news.length → cur'[k + j]? = news[j]?)
  | [], w, k, cur, h, _ => ⟨cur, by simpa [World.setCells] using h, rfl, fun _ _ => rfl, fun j hj => by simp at hj⟩
  | u :: r, w, k, cur, h, hk => by
    have h1 := heap_setCell_same w g k cur e u h
    obtain ⟨cur', c1, c2, c3, c4⟩ := heap_setCells_same g e r (w.setCell ⟨g, k, none⟩ u) (k + 1) _ h1 (by simp at hk ⊢; omega)
    refine ⟨cur', by simpa [World.setCells] using c1, by rw [c2]; simp, fun j hj => ?_, fun j hj => ?_⟩
    · rw [c3 j (by omega), Array.getElem?_setIfInBounds, if_neg (by omega)]
    · cases j with
      | zero =>
        rw [Nat.add_zero, c3 k (by omega), Array.getElem?_setIfInBounds, if_pos rfl, if_pos (by simp at hk; omega)]
        rfl
      | succ j =>
        have := c4 j (by simp at hj; omega)
        rw [show k + (j + 1) = k + 1 + j by omega, this]
        rfl
theorem mod_setCells (g : Nat) : ∀ (news : List Value) (w : World) (k : Nat), Mod (fun i => i = g) w (w.setCells g k news)
  | [], w, k => by simpa [World.setCells] using Mod.refl _ w
  | u :: r, w, k => by
    have := ((Mod.refl (fun i => i = g) w).setCell ⟨g, k, none⟩ (.inl rfl) u).same (mod_setCells g r (w.setCell ⟨g, k, none⟩ u) (k + 1))
    simpa [World.setCells] using this
theorem SlV.append {P : Program} {w : World} {t e : TypeId} {s bytes : Nat} {v : Value} {n : Nat} {xs : List Value} (h : SlV w e s v n xs) (ty : TypeId) (i : TypeInfo) (z : Value) (ht : P.underlying t = some (.slice e)) (hi : P.info? e = some i) (hz : i.zero = some z)
    (hsize : i.size = s) (hby : i.bytes = bytes) (hzs : z.cells.size = s) (hsz : 0 < s) (a : Addr) (m c : Nat) (news : List Value) (hm : 0 < m) (hl : news.length = m * s) (hnews : ∀ j u, news[j]? = some u → w.cell? (a.add j) = some u) (h1 : ∀ u ∈ news, u.oneCell' = true)
    (h63 : n + m ≤ maxLen) (hbytes : (n + m) * bytes ≤ 140737488355328) :
    ∃ v' w', (Builtin.append_ #[t, t] ty #[v, .slice (some a) m c]).run P w = .ok v' w' ∧ SlV w' e s v' (n + m) (xs ++ news) ∧ Mod (fun k => v.ownBlock = some k) w w' ∧ (v'.ownBlock = v.ownBlock ∨ ∃ k, v'.ownBlock = some k ∧ w.heap.size ≤ k) := by
  have grown : ∀ {v' : Value} {w' : World} {ys : List Value}, w'.ownsRow w.heap.size e s v' (n + m) ys → w.grownBy w' none → Mod (fun k => v.ownBlock = some k) w w' ∧ (v'.ownBlock = v.ownBlock ∨ ∃ k, v'.ownBlock = some k ∧ w.heap.size ≤ k) := by
    intro v' w' ys ho hg
    refine ⟨⟨hg.os, hg.tape, hg.output, hg.size, fun k hk _ => hg.block k hk (by simp)⟩, .inr ?_⟩
    rcases ho.2 with ⟨_, h0⟩ | ⟨g, cap, cur, rfl, hb, _⟩
    · omega
    · exact ⟨g, rfl, hb⟩
  rcases h.2 with ⟨rfl, b, rfl⟩ | ⟨g, off, cap, cur, rfl, hg, hc, hcm, hcs, hcell⟩
  · have hx : xs = [] := List.length_eq_zero_iff.1 (by rw [h.1]; simp)
    subst hx
    cases b with
    | none =>
      obtain ⟨v', w', hrun, ho, hg, _⟩ := run_append_own (P := P) w w.heap.size t ty e i z s bytes ht hi hz hsize hby hzs hsz (.slice none 0 0) 0 [] (World.ownsRow_nil _ _ _ _) a m c news hl hnews h1 h63 hbytes (Nat.le_refl _)
      obtain ⟨g1, g2⟩ := grown ho (by simpa [Value.ownBlock] using hg)
      exact ⟨v', w', hrun, SlV.of_own ho, g1, g2⟩
    | some b =>
      obtain ⟨v', w', hrun, ho, hg⟩ := run_append_arg_grows (P := P) w t ty e i z s bytes ht hi hz hsize hby hzs hsz b 0 0 [] (by simp) (fun j u hj => by simp at hj) a m c news hl hnews (by omega) h63 hbytes
      obtain ⟨g1, g2⟩ := grown ho hg
      exact ⟨v', w', hrun, SlV.of_own ho, g1, g2⟩
  · by_cases hroom : n + m ≤ cap
    · have hsp : ∀ j, j < news.length → off + n * s + j < cur.size := fun j hj => by
        have : (n + m) * s ≤ cap * s := Nat.mul_le_mul_right _ hroom
        rw [Nat.add_mul] at this
        omega
      have hrun := run_append_room_cells (P := P) w t ty e i ht hi g off n cap a m c news (by rw [hsize]; exact hl) hnews h1 hroom (fun j hj => by
        unfold World.cell?; rw [hg, hsize]; simp [Array.getElem?_eq_getElem (hsp j hj)]) (fun j _ => by unfold World.frozen?; rw [hg]; simp)
      rw [hsize] at hrun
      obtain ⟨cur', c1, c2, c3, c4⟩ := heap_setCells_same g e news w (off + n * s) cur hg (by
        have : (n + m) * s ≤ cap * s := Nat.mul_le_mul_right _ hroom
        rw [Nat.add_mul] at this
        omega)
      refine ⟨_, _, hrun, ⟨by rw [List.length_append, h.1, hl, Nat.add_mul], .inr ⟨g, off, cap, cur', rfl, c1, hroom, hcm, by rw [c2]; exact hcs, fun j hj => ?_⟩⟩, (mod_setCells g news w _).mono fun k _ hk => by simp [Value.ownBlock, hk], .inl rfl⟩
      by_cases hj2 : j < n * s
      · rw [c3 _ (by omega), hcell j hj2, List.getElem?_append_left (by rw [h.1]; exact hj2)]
      · rw [List.getElem?_append_right (by rw [h.1]; omega), h.1]
        have := c4 (j - n * s) (by rw [Nat.add_mul] at hj; omega)
        rw [show off + n * s + (j - n * s) = off + j by omega] at this
        exact this
    · obtain ⟨v', w', hrun, ho, hgr⟩ := run_append_arg_grows (P := P) w t ty e i z s bytes ht hi hz hsize hby hzs hsz ⟨g, off, none⟩ n cap xs h.1 (fun j u hj => by
        have hjl : j < n * s := by rw [← h.1]; exact (List.getElem?_eq_some_iff.1 hj).1
        have hadd : (⟨g, off, none⟩ : Addr).add j = ⟨g, off + j, none⟩ := by unfold Addr.add; split <;> simp_all
        rw [hadd, h.cell j hjl, hj]) a m c news hl hnews (by omega) h63 hbytes
      obtain ⟨g1, g2⟩ := grown ho hgr
      exact ⟨v', w', hrun, SlV.of_own ho, g1, g2⟩
theorem wpList_append_slv {P : Program} (w : World) {ops : Array Oper} {rest : List Oper} {o : Oper} {ac : Act} {Q : Exit → Act → World → Prop} (hgd : o.guard = none) (sl x : Operand) (t : TypeId)
    (ho : o.op = .call { callee := .builtin .append, args := #[sl, x], argTypes := #[t, t] })
    (e : TypeId) (i : TypeInfo) (z : Value) (s bytes : Nat) (ht : P.underlying t = some (.slice e)) (hi : P.info? e = some i) (hz : i.zero = some z) (hsize : i.size = s) (hby : i.bytes = bytes) (hzs : z.cells.size = s) (hsz : 0 < s)
    (v : Value) (n : Nat) (xs : List Value) (hs : ac.eval sl = v) (h : SlV w e s v n xs)
    (a : Addr) (m c : Nat) (news : List Value) (hx : ac.eval x = .slice (some a) m c) (hm : 0 < m) (hl : news.length = m * s) (hnews : ∀ j u, news[j]? = some u → w.cell? (a.add j) = some u) (h1 : ∀ u ∈ news, u.oneCell' = true)
    (h63 : n + m ≤ maxLen) (hbytes : (n + m) * bytes ≤ 140737488355328)
    (hK : ∀ v' w', SlV w' e s v' (n + m) (xs ++ news) → Mod (fun k => v.ownBlock = some k) w w' → (v'.ownBlock = v.ownBlock ∨ ∃ k, v'.ownBlock = some k ∧ w.heap.size ≤ k) → wpList P ops Q rest (ac.put o.dst v') w') : wpList P ops Q (o :: rest) ac w := by
  refine wpList_plain hgd fun K hK' => ?_
  obtain ⟨v', w', hrun, r1, r2, r3⟩ := h.append (P := P) o.type i z ht hi hz hsize hby hzs hsz a m c news hm hl hnews h1 h63 hbytes
  unfold Oper.wp
  simp [execOp, ho, resolve, invoke, builtin, hs, hx, hrun, Result.andThen]
  exact hK' _ _ (hK v' w' r1 r2 r3)
theorem step_append_slv {P : Program} {w : World} {ops : Array Oper} {o : Oper} {ac : Act} {K : Act → World → Prop} {Q : Exit → Act → World → Prop} {E : Prop} (hgd : o.guard = none) (sl x : Operand) (t : TypeId)
    (ho : o.op = .call { callee := .builtin .append, args := #[sl, x], argTypes := #[t, t] })
    (e : TypeId) (i : TypeInfo) (z : Value) (s bytes : Nat) (ht : P.underlying t = some (.slice e)) (hi : P.info? e = some i) (hz : i.zero = some z) (hsize : i.size = s) (hby : i.bytes = bytes) (hzs : z.cells.size = s) (hsz : 0 < s)
    (v : Value) (n : Nat) (xs : List Value) (hs : ac.eval sl = v) (h : SlV w e s v n xs)
    (a : Addr) (m c : Nat) (news : List Value) (hx : ac.eval x = .slice (some a) m c) (hm : 0 < m) (hl : news.length = m * s) (hnews : ∀ j u, news[j]? = some u → w.cell? (a.add j) = some u) (h1 : ∀ u ∈ news, u.oneCell' = true)
    (h63 : n + m ≤ maxLen) (hbytes : (n + m) * bytes ≤ 140737488355328)
    (hK : ∀ v' w', SlV w' e s v' (n + m) (xs ++ news) → Mod (fun k => v.ownBlock = some k) w w' → (v'.ownBlock = v.ownBlock ∨ ∃ k, v'.ownBlock = some k ∧ w.heap.size ≤ k) → K (ac.put o.dst v') w') :
    if Region.wanted o (yielded ops ac.tmps) = true then Oper.wp P o ac w K Q else E := by
  have hw : Region.wanted o (yielded ops ac.tmps) = true := by simp [Region.wanted, hgd]
  rw [if_pos hw]
  obtain ⟨v', w', hrun, r1, r2, r3⟩ := h.append (P := P) o.type i z ht hi hz hsize hby hzs hsz a m c news hm hl hnews h1 h63 hbytes
  unfold Oper.wp
  simp [execOp, ho, resolve, invoke, builtin, hs, hx, hrun, Result.andThen]
  exact hK v' w' r1 r2 r3
end Go.Proofs.YtdmoohiepnbdaaaGreat
namespace Go.Proofs.YtdmoohiepnbdaaaGreat
open Go.RowKit
set_option linter.unusedVariables false
structure Rp where
  pg : Pg
  bb : Nat
  cap : Nat
def Rp.ptr (q : Rp) : Value := .pointer (some ⟨q.pg.blk, 0, none⟩)
structure RPage (w : World) (q : Rp) : Prop where
  page : w.heap[q.pg.blk]? = some (.cells #[.int .u32 q.pg.addr, .int .u8 q.pg.perm, .slice (some ⟨q.bb, 0, none⟩) 256 q.cap] 342 (0, 0))
  data : ∃ cur, w.heap[q.bb]? = some (.cells cur 5 (0, 0)) ∧ cur.size = q.cap ∧ ∀ j, j < 256 → cur[j]? = some (.int .u8 (q.pg.bytes.getD j 0))
  cap1 : 256 ≤ q.cap
  cap2 : q.cap ≤ maxLen
  ok : q.pg.ok
structure Rsp (w : World) (rb : Nat) (lv : Value) (R : List Rp) : Prop where
  head : w.heap[rb]? = some (.cells #[lv] 203 (0, 0))
  list : w.ownsRow 0 339 1 lv R.length (R.map Rp.ptr)
  pages : ∀ q, q ∈ R → RPage w q
  up : (R.map (·.pg)).Pairwise fun p q => p.addr < q.addr
  bbs : R.Pairwise fun p q => p.bb ≠ q.bb
def rpgs (R : List Rp) : List Pg := R.map (·.pg)
def Rsp.foot (rb : Nat) (lv : Value) (R : List Rp) (k : Nat) : Prop := k = rb ∨ lv.ownBlock = some k ∨ ∃ q, q ∈ R ∧ (k = q.pg.blk ∨ k = q.bb)
theorem RPage.keep {w w' : World} {q : Rp} (h : RPage w q) (h1 : w'.heap[q.pg.blk]? = w.heap[q.pg.blk]?) (h2 : w'.heap[q.bb]? = w.heap[q.bb]?) : RPage w' q := by
  obtain ⟨cur, hb, rest⟩ := h.data
  exact ⟨h1.trans h.page, ⟨cur, h2.trans hb, rest⟩, h.cap1, h.cap2, h.ok⟩
theorem RPage.lt1 {w : World} {q : Rp} (h : RPage w q) : q.pg.blk < w.heap.size := lt_of_block h.page
theorem RPage.lt2 {w : World} {q : Rp} (h : RPage w q) : q.bb < w.heap.size := by obtain ⟨cur, hb, _⟩ := h.data; exact lt_of_block hb
theorem Rsp.lt {w : World} {rb : Nat} {lv : Value} {R : List Rp} (h : Rsp w rb lv R) {k : Nat} (hk : Rsp.foot rb lv R k) : k < w.heap.size := by
  rcases hk with rfl | hk | ⟨q, hq, rfl | rfl⟩
  · exact lt_of_block h.head
  · exact (h.list.lt k hk).2
  · exact (h.pages q hq).lt1
  · exact (h.pages q hq).lt2
theorem Rsp.frame {w w' : World} {rb : Nat} {lv : Value} {R : List Rp} (h : Rsp w rb lv R) (hf : ∀ k, Rsp.foot rb lv R k → w'.heap[k]? = w.heap[k]?) : Rsp w' rb lv R := by
  refine ⟨(hf rb (.inl rfl)).trans h.head, ?_, fun q hq => (h.pages q hq).keep (hf _ (.inr (.inr ⟨q, hq, .inl rfl⟩))) (hf _ (.inr (.inr ⟨q, hq, .inr rfl⟩))), h.up, h.bbs⟩
  obtain ⟨hl, g⟩ := h.list
  refine ⟨hl, g.imp id ?_⟩
  rintro ⟨g1, cap, cur, rfl, h1, h2, rest⟩
  exact ⟨g1, cap, cur, rfl, h1, (hf g1 (.inr (.inl rfl))).trans h2, rest⟩
theorem Rsp.below {w w' : World} {rb : Nat} {lv : Value} {R : List Rp} {B : Nat} (h : Rsp w rb lv R) (hm : Below B w w') (hf : ∀ k, Rsp.foot rb lv R k → k < B) : Rsp w' rb lv R := h.frame fun k hk => hm.block k (hf k hk)
theorem Rsp.same {w w' : World} {rb : Nat} {lv : Value} {R : List Rp} (h : Rsp w rb lv R) (hm : Below w.heap.size w w') : Rsp w' rb lv R := h.below hm fun k hk => h.lt hk
theorem Rsp.cellHead {w : World} {rb : Nat} {lv : Value} {R : List Rp} (h : Rsp w rb lv R) : w.cell? ⟨rb, 0, none⟩ = some lv := by unfold World.cell?; rw [h.head]; rfl
theorem RPage.cells {w : World} {q : Rp} (h : RPage w q) : w.cell? ⟨q.pg.blk, 0, none⟩ = some (.int .u32 q.pg.addr) ∧ w.cell? ⟨q.pg.blk, 1, none⟩ = some (.int .u8 q.pg.perm) ∧ w.cell? ⟨q.pg.blk, 2, none⟩ = some (.slice (some ⟨q.bb, 0, none⟩) 256 q.cap) := by
  refine ⟨?_, ?_, ?_⟩ <;> (unfold World.cell?; rw [h.page]; rfl)
theorem RPage.byte {w : World} {q : Rp} (h : RPage w q) (j : Nat) (hj : j < 256) : w.cell? ⟨q.bb, j, none⟩ = some (.int .u8 (q.pg.bytes.getD j 0)) := by
  obtain ⟨cur, hb, _, hc⟩ := h.data
  unfold World.cell?
  rw [hb]
  simpa using hc j hj
theorem RPage.free {w : World} {q : Rp} (h : RPage w q) (j : Nat) : w.frozen? ⟨q.bb, j, none⟩ = false := by
  obtain ⟨cur, hb, _, hc⟩ := h.data
  unfold World.frozen?
  rw [hb]
  simp
theorem Rsp.row {w : World} {rb : Nat} {lv : Value} {R : List Rp} (h : Rsp w rb lv R) : ∃ a cap, lv = .slice a R.length cap ∧ (0 < R.length → ∃ g, a = some ⟨g, 0, none⟩ ∧ ∀ i q, R[i]? = some q → w.cell? ⟨g, i, none⟩ = some q.ptr) ∧ R.length ≤ maxLen := by
  obtain ⟨hl, g⟩ := h.list
  rcases g with ⟨rfl, h0⟩ | ⟨g, cap, cur, rfl, _, hg, h1, h2, h3, h4⟩
  · exact ⟨none, 0, by rw [h0], fun g => by omega, by unfold maxLen; omega⟩
  · refine ⟨_, cap, rfl, fun _ => ⟨g, rfl, fun i q hq => ?_⟩, by omega⟩
    have hi := (List.getElem?_eq_some_iff.1 hq).1
    unfold World.cell?
    rw [hg]
    have h5 : (cur.toList.take (R.length * 1))[i]? = (R.map Rp.ptr)[i]? := by rw [h4]
    rw [List.getElem?_take_of_lt (by omega), List.getElem?_map, hq] at h5
    simpa using h5
theorem Rsp.len {w : World} {rb : Nat} {lv : Value} {R : List Rp} (h : Rsp w rb lv R) : R.length ≤ 4096 := by
  have hok : ∀ p, p ∈ rpgs R → p.ok := by
    intro p hp
    obtain ⟨q, hq, rfl⟩ := List.mem_map.1 hp
    exact (h.pages q hq).ok
  have := len_up h.up hok 0 (fun p hp => (hok p hp).a0) (by omega)
  rw [List.length_map] at this
  omega
namespace Rs
theorem may (x : Int) (h0 : 0 ≤ x) (h1 : x ≤ 4294967295) (w : World) : Calls Tryz.prog 187 #[.int .u32 x] w fun e w' => e = .returned (.bool (Sp.mayB x)) ∧ w = w' := by
  by_cases a : x % 256 = 0
  · by_cases b : x < 1048576
    · go_enter Tryz.func187, Tryz.ntmps187
      go_wp2
      go_ret
      exact ⟨Sp.ret_bool (by unfold Sp.mayB; rw [decide_eq_true b, a]; rfl), rfl⟩
    · go_enter Tryz.func187, Tryz.ntmps187
      go_wp2
      go_ret
      exact ⟨Sp.ret_bool (by unfold Sp.mayB; rw [decide_eq_false (by omega)]; simp), rfl⟩
  · have a2 : (x % 256 == 0) = false := beq_eq_false_iff_ne.2 a
    go_enter Tryz.func187, Tryz.ntmps187
    go_wp2
    go_ret
    exact ⟨Sp.ret_bool (by unfold Sp.mayB; rw [a2]; rfl), rfl⟩
def ofRel (R : List Rp) (x : Int) (vi : Value) : Prop := ∃ i : Nat, vi = .int .i64 i ∧ i ≤ R.length ∧ ∀ q, q ∈ R.take i → q.pg.addr ≠ x - x % 256
theorem of_hit {R : List Rp} {x : Int} (hup : (rpgs R).Pairwise fun p q => p.addr < q.addr) {i : Nat} (hi : i < R.length) (h : R[i].pg.addr = x - x % 256) : pageAt (rpgs R) x = some R[i].pg := by
  unfold pageAt
  rw [← h]
  exact atAddr_eq_some hup (List.mem_map.2 ⟨_, List.getElem_mem hi, rfl⟩)
theorem of_miss {R : List Rp} {x : Int} (h : ∀ q, q ∈ R → q.pg.addr ≠ x - x % 256) : pageAt (rpgs R) x = none := by
  refine atAddr_eq_none fun p hp => ?_
  obtain ⟨q, hq, rfl⟩ := List.mem_map.1 hp
  exact h q hq
set_option maxRecDepth 100000 in
theorem of {w : World} {rb : Nat} {lv : Value} {R : List Rp} (h : Rsp w rb lv R) (x : Int) (h0 : 0 ≤ x) (h1 : x ≤ 18446744073709551615) :
    Calls Tryz.prog 188 #[.pointer (some ⟨rb, 0, none⟩), .int .u64 x] w fun e w' => e = .returned (pgPtr (pageAt (rpgs R) x)) ∧ w = w' := by
  obtain ⟨a, cap, rfl, hrow, hmx⟩ := h.row
  unfold maxLen at hmx
  have hc := h.cellHead
  have H := Lib.hid h
  have Hrow := Lib.hid hrow
  clear h hrow
  generalize hn : R.length = n at *
  have Hn := Lib.hid hn
  clear hn
  go_enter Tryz.func188, Tryz.ntmps188
  go_wp2
  go_loop [5] (fun vi => ofRel R x vi) (fun vi => n - (intOf vi).toNat)
  case atStart => exact ⟨0, by go_num, Nat.zero_le _, fun q hq => by simp at hq⟩
  case round =>
    obtain ⟨i, rfl, hi, hno⟩ := hrel
    rw [Hn.out] at hi
    have Hno := Lib.hid hno
    clear hno
    by_cases hin : i < n
    · have hin2 : i < R.length := by rw [Hn.out]; exact hin
      obtain ⟨g, rfl, hcell⟩ := Hrow.out (by omega)
      have hci : w.cell? ⟨g, i, none⟩ = some (R[i]).ptr := hcell i _ (List.getElem?_eq_getElem hin2)
      have hpg := H.out.pages R[i] (List.getElem_mem hin2)
      have hok := hpg.ok
      have b0 := hok.a0
      have b1 := hok.a1
      have b2 := hok.a2
      obtain ⟨c0, _, _⟩ := hpg.cells
      have hA := Lib.hid (show ∀ x, R[i].pg.addr = x - x % 256 → pageAt (rpgs R) x = some R[i].pg from fun x => of_hit H.out.up hin2)
      have hB := Lib.hid (show R[i].pg.addr ≠ x - x % 256 → ∀ q, q ∈ R.take (i + 1) → q.pg.addr ≠ x - x % 256 from fun hne q hq => by
        rw [List.take_succ_eq_append_getElem hin2, List.mem_append] at hq
        rcases hq with hq | hq
        · exact Hno.out q hq
        · rw [List.mem_singleton.1 hq]; exact hne)
      unfold Rp.ptr at hci
      generalize R[i].pg.addr = y at *
      generalize hqb : R[i].pg.blk = pb at *
      have Hqb := Lib.hid hqb
      clear hcell hpg hok hqb
      by_cases g1 : y ≤ x
      · by_cases g2 : x < y + 256
        · have e : y = x - x % 256 := by omega
          have hP := hA.out x e
          have HP := Lib.hid hP
          clear hP e hA hB
          go_wp2
          go_ret
          exact ⟨by rw [HP.out, ← Hqb.out]; rfl, rfl⟩
        · have HB2 := Lib.hid (hB.out (by omega))
          clear hA hB
          go_wp2
          go_round
          case rel => exact ⟨i + 1, by go_num, by rw [Hn.out]; omega, HB2.out⟩
          case measure => simp [intOf]; omega
      · have g1z : decide (y ≤ x) = false := decide_eq_false g1
        have HB2 := Lib.hid (hB.out (by omega))
        clear hA hB
        go_wp2
        go_round
        case rel => exact ⟨i + 1, by go_num, by rw [Hn.out]; omega, HB2.out⟩
        case measure => simp [intOf]; omega
    · obtain rfl : i = n := by omega
      have HP := Lib.hid (of_miss (R := R) (x := x) (fun q hq => Hno.out q (by rw [List.take_of_length_le (by rw [Hn.out]; exact Nat.le_refl _)]; exact hq)))
      go_wp2
      go_ret
      exact ⟨by rw [HP.out]; rfl, rfl⟩
theorem of_none {w : World} {rb : Nat} {lv : Value} {R : List Rp} (h : Rsp w rb lv R) (x : Int) (h0 : 0 ≤ x) (h1 : x ≤ 18446744073709551615) (hp : pageAt (rpgs R) x = none) :
    Calls Tryz.prog 188 #[.pointer (some ⟨rb, 0, none⟩), .int .u64 x] w fun e w' => e = .returned (.pointer none) ∧ w = w' := by
  have := of h x h0 h1
  rw [hp] at this
  exact this
theorem of_some {w : World} {rb : Nat} {lv : Value} {R : List Rp} (h : Rsp w rb lv R) (x : Int) (h0 : 0 ≤ x) (h1 : x ≤ 18446744073709551615) {p : Pg} (hp : pageAt (rpgs R) x = some p) :
    Calls Tryz.prog 188 #[.pointer (some ⟨rb, 0, none⟩), .int .u64 x] w fun e w' => e = .returned (.pointer (some ⟨p.blk, 0, none⟩)) ∧ w = w' := by
  have := of h x h0 h1
  rw [hp] at this
  exact this
end Rs
end Go.Proofs.YtdmoohiepnbdaaaGreat
