/- A slice wherever it lies: 'SlV w e s v n xs': v has n elements of s cells each, the cells xs; none is frozen. append to it. -/
import Derived.Test.YtohlgcdailconaaGreatDoorMod
import Derived.ArgAppend
import Derived.Deep.AppendLies
namespace Go.Proofs.YtohlgcdailconaaGreatDoor
open Go.RowKit
def SlV (w : World) (e : TypeId) (s : Nat) (v : Value) (n : Nat) (xs : List Value) : Prop :=
  xs.length = n * s ∧
  ((n = 0 ∧ ∃ a, v = .slice a 0 0) ∨
   ∃ g off cap cur, v = .slice (some ⟨g, off, none⟩) n cap ∧ w.heap[g]? = some (.cells cur e (0, 0)) ∧ n ≤ cap ∧ cap ≤ maxLen ∧ off + cap * s ≤ cur.size ∧ ∀ j, j < n * s → cur[off + j]? = xs[j]?)
theorem SlV.nil (w : World) (e : TypeId) (s : Nat) : SlV w e s (.slice none 0 0) 0 [] := ⟨by simp, .inl ⟨rfl, none, rfl⟩⟩
theorem SlV.of_own {w : World} {base : Nat} {e : TypeId} {s : Nat} {v : Value} {n : Nat} {xs : List Value} (h : w.ownsRow base e s v n xs) : SlV w e s v n xs := by
  obtain ⟨hl, h⟩ := h
  refine ⟨hl, ?_⟩
  rcases h with ⟨rfl, hn⟩ | ⟨g, cap, cur, rfl, _, hg, hc, hm, hs, ht⟩
  · subst hn; exact .inl ⟨rfl, none, rfl⟩
  · refine .inr ⟨g, 0, cap, cur, rfl, hg, hc, hm, by omega, fun j hj => ?_⟩
    rw [Nat.zero_add, ← ht, List.getElem?_take_of_lt hj]
    simp
theorem SlV.keep {w w' : World} {e : TypeId} {s : Nat} {v : Value} {n : Nat} {xs : List Value} (h : SlV w e s v n xs) (hk : ∀ g, v.ownBlock = some g → w'.heap[g]? = w.heap[g]?) : SlV w' e s v n xs := by
  obtain ⟨hl, h⟩ := h
  refine ⟨hl, ?_⟩
  rcases h with h | ⟨g, off, cap, cur, rfl, hg, rest⟩
  · exact .inl h
  · exact .inr ⟨g, off, cap, cur, rfl, (hk g rfl).trans hg, rest⟩
theorem SlV.lt {w : World} {e : TypeId} {s : Nat} {v : Value} {n : Nat} {xs : List Value} (h : SlV w e s v n xs) (hn : 0 < n) : ∃ g, v.ownBlock = some g ∧ g < w.heap.size := by
  rcases h.2 with ⟨h0, _⟩ | ⟨g, off, cap, cur, rfl, hg, _⟩
  · omega
  · exact ⟨g, rfl, (Array.getElem?_eq_some_iff.1 hg).1⟩
/-- It is a slice of that length. -/
theorem SlV.form {w : World} {e : TypeId} {s : Nat} {v : Value} {n : Nat} {xs : List Value} (h : SlV w e s v n xs) : ∃ a cap, v = .slice a n cap := by
  rcases h.2 with ⟨rfl, a, rfl⟩ | ⟨g, off, cap, cur, rfl, _⟩
  · exact ⟨a, 0, rfl⟩
  · exact ⟨_, cap, rfl⟩
theorem SlV.cell {w : World} {e : TypeId} {s : Nat} {g off n cap : Nat} {xs : List Value} (h : SlV w e s (.slice (some ⟨g, off, none⟩) n cap) n xs) (j : Nat) (hj : j < n * s) : w.cell? ⟨g, off + j, none⟩ = xs[j]? := by
  rcases h.2 with ⟨rfl, _⟩ | ⟨g', off', cap', cur, hv, hg, _, _, _, hc⟩
  · omega
  · simp only [Value.slice.injEq, Option.some.injEq, Addr.mk.injEq, and_true, true_and] at hv
    obtain ⟨⟨rfl, rfl⟩, rfl⟩ := hv
    rw [← hc j hj]
    unfold World.cell?
    rw [hg]
    rfl
theorem SlV.free {w : World} {e : TypeId} {s : Nat} {g off n cap : Nat} {xs : List Value} (h : SlV w e s (.slice (some ⟨g, off, none⟩) n cap) n xs) (hn : 0 < n) (j : Nat) : w.frozen? ⟨g, j, none⟩ = false := by
  rcases h.2 with ⟨rfl, _⟩ | ⟨g', off', cap', cur, hv, hg, _⟩
  · omega
  · simp only [Value.slice.injEq, Option.some.injEq, Addr.mk.injEq, and_true, true_and] at hv
    obtain ⟨⟨rfl, rfl⟩, rfl⟩ := hv
    unfold World.frozen?
    rw [hg]
    simp
theorem heap_setCells_same (g : Nat) (e : TypeId) : ∀ (news : List Value) (w : World) (k : Nat) (cur : Array Value), w.heap[g]? = some (.cells cur e (0, 0)) → k + news.length ≤ cur.size →
    ∃ cur', (w.setCells g k news).heap[g]? = some (.cells cur' e (0, 0)) ∧ cur'.size = cur.size ∧ (∀ j, j < k → cur'[j]? = cur[j]?) ∧ (∀ j, j < news.length → cur'[k + j]? = news[j]?)
  | [], w, k, cur, h, _ => ⟨cur, by simpa [World.setCells] using h, rfl, fun _ _ => rfl, fun j hj => by simp at hj⟩
  | u :: r, w, k, cur, h, hk => by
    have h1 := heap_setCell_same w g k cur e u h
    obtain ⟨cur', c1, c2, c3, c4⟩ := heap_setCells_same g e r (w.setCell ⟨g, k, none⟩ u) (k + 1) _ h1 (by simp at hk ⊢; omega)
    refine ⟨cur', by simpa [World.setCells] using c1, by rw [c2]; simp, fun j hj => ?_, fun j hj => ?_⟩
    · rw [c3 j (by omega), Array.getElem?_setIfInBounds, if_neg (by omega)]
    · cases j with
      | zero =>
        rw [Nat.add_zero, c3 k (by omega), Array.getElem?_setIfInBounds, if_pos rfl, if_pos (by simp at hk; omega)]
        rfl
      | succ j =>
        have := c4 j (by simp at hj; omega)
        rw [show k + (j + 1) = k + 1 + j by omega, this]
        rfl
theorem mod_setCells (g : Nat) : ∀ (news : List Value) (w : World) (k : Nat), Mod (fun i => i = g) w (w.setCells g k news)
  | [], w, k => by simpa [World.setCells] using Mod.refl _ w
  | u :: r, w, k => by
    have := ((Mod.refl (fun i => i = g) w).setCell ⟨g, k, none⟩ (.inl rfl) u).same (mod_setCells g r (w.setCell ⟨g, k, none⟩ u) (k + 1))
    simpa [World.setCells] using this
theorem SlV.append {P : Program} {w : World} {t e : TypeId} {s bytes : Nat} {v : Value} {n : Nat} {xs : List Value} (h : SlV w e s v n xs) (ty : TypeId) (i : TypeInfo) (z : Value) (ht : P.underlying t = some (.slice e)) (hi : P.info? e = some i) (hz : i.zero = some z)
    (hsize : i.size = s) (hby : i.bytes = bytes) (hzs : z.cells.size = s) (hsz : 0 < s) (a : Addr) (m c : Nat) (news : List Value) (hm : 0 < m) (hl : news.length = m * s) (hnews : ∀ j u, news[j]? = some u → w.cell? (a.add j) = some u) (h1 : ∀ u ∈ news, u.oneCell' = true)
    (h63 : n + m ≤ maxLen) (hbytes : (n + m) * bytes ≤ 140737488355328) :
    ∃ v' w', (Builtin.append_ #[t, t] ty #[v, .slice (some a) m c]).run P w = .ok v' w' ∧ SlV w' e s v' (n + m) (xs ++ news) ∧ Mod (fun k => v.ownBlock = some k) w w' ∧ (v'.ownBlock = v.ownBlock ∨ ∃ k, v'.ownBlock = some k ∧ w.heap.size ≤ k) := by
  have grown : ∀ {v' : Value} {w' : World} {ys : List Value}, w'.ownsRow w.heap.size e s v' (n + m) ys → w.grownBy w' none → Mod (fun k => v.ownBlock = some k) w w' ∧ (v'.ownBlock = v.ownBlock ∨ ∃ k, v'.ownBlock = some k ∧ w.heap.size ≤ k) := by
    intro v' w' ys ho hg
    refine ⟨⟨hg.os, hg.tape, hg.output, hg.size, fun k hk _ => hg.block k hk (by simp)⟩, .inr ?_⟩
    rcases ho.2 with ⟨_, h0⟩ | ⟨g, cap, cur, rfl, hb, _⟩
    · omega
    · exact ⟨g, rfl, hb⟩
  rcases h.2 with ⟨rfl, b, rfl⟩ | ⟨g, off, cap, cur, rfl, hg, hc, hcm, hcs, hcell⟩
  · have hx : xs = [] := List.length_eq_zero_iff.1 (by rw [h.1]; simp)
    subst hx
    cases b with
    | none =>
      obtain ⟨v', w', hrun, ho, hg, _⟩ := run_append_own (P := P) w w.heap.size t ty e i z s bytes ht hi hz hsize hby hzs hsz (.slice none 0 0) 0 [] (World.ownsRow_nil _ _ _ _) a m c news hl hnews h1 h63 hbytes (Nat.le_refl _)
      obtain ⟨g1, g2⟩ := grown ho (by simpa [Value.ownBlock] using hg)
      exact ⟨v', w', hrun, SlV.of_own ho, g1, g2⟩
    | some b =>
      obtain ⟨v', w', hrun, ho, hg⟩ := run_append_arg_grows (P := P) w t ty e i z s bytes ht hi hz hsize hby hzs hsz b 0 0 [] (by simp) (fun j u hj => by simp at hj) a m c news hl hnews (by omega) h63 hbytes
      obtain ⟨g1, g2⟩ := grown ho hg
      exact ⟨v', w', hrun, SlV.of_own ho, g1, g2⟩
  · by_cases hroom : n + m ≤ cap
    · have hsp : ∀ j, j < news.length → off + n * s + j < cur.size := fun j hj => by
        have : (n + m) * s ≤ cap * s := Nat.mul_le_mul_right _ hroom
        rw [Nat.add_mul] at this
        omega
      have hrun := run_append_room_cells (P := P) w t ty e i ht hi g off n cap a m c news (by rw [hsize]; exact hl) hnews h1 hroom (fun j hj => by
        unfold World.cell?; rw [hg, hsize]; simp [Array.getElem?_eq_getElem (hsp j hj)]) (fun j _ => by unfold World.frozen?; rw [hg]; simp)
      rw [hsize] at hrun
      obtain ⟨cur', c1, c2, c3, c4⟩ := heap_setCells_same g e news w (off + n * s) cur hg (by
        have : (n + m) * s ≤ cap * s := Nat.mul_le_mul_right _ hroom
        rw [Nat.add_mul] at this
        omega)
      refine ⟨_, _, hrun, ⟨by rw [List.length_append, h.1, hl, Nat.add_mul], .inr ⟨g, off, cap, cur', rfl, c1, hroom, hcm, by rw [c2]; exact hcs, fun j hj => ?_⟩⟩, (mod_setCells g news w _).mono fun k _ hk => by simp [Value.ownBlock, hk], .inl rfl⟩
      by_cases hj2 : j < n * s
      · rw [c3 _ (by omega), hcell j hj2, List.getElem?_append_left (by rw [h.1]; exact hj2)]
      · rw [List.getElem?_append_right (by rw [h.1]; omega), h.1]
        have := c4 (j - n * s) (by rw [Nat.add_mul] at hj; omega)
        rw [show off + n * s + (j - n * s) = off + j by omega] at this
        exact this
    · obtain ⟨v', w', hrun, ho, hgr⟩ := run_append_arg_grows (P := P) w t ty e i z s bytes ht hi hz hsize hby hzs hsz ⟨g, off, none⟩ n cap xs h.1 (fun j u hj => by
        have hjl : j < n * s := by rw [← h.1]; exact (List.getElem?_eq_some_iff.1 hj).1
        have hadd : (⟨g, off, none⟩ : Addr).add j = ⟨g, off + j, none⟩ := by unfold Addr.add; split <;> simp_all
        rw [hadd, h.cell j hjl, hj]) a m c news hl hnews (by omega) h63 hbytes
      obtain ⟨g1, g2⟩ := grown ho hgr
      exact ⟨v', w', hrun, SlV.of_own ho, g1, g2⟩
/-- For the walk, at the list of a plain region's operations. -/
theorem wpList_append_slv {P : Program} (w : World) {ops : Array Oper} {rest : List Oper} {o : Oper} {ac : Act} {Q : Exit → Act → World → Prop} (hgd : o.guard = none) (sl x : Operand) (t : TypeId)
    (ho : o.op = .call { callee := .builtin .append, args := #[sl, x], argTypes := #[t, t] })
    (e : TypeId) (i : TypeInfo) (z : Value) (s bytes : Nat) (ht : P.underlying t = some (.slice e)) (hi : P.info? e = some i) (hz : i.zero = some z) (hsize : i.size = s) (hby : i.bytes = bytes) (hzs : z.cells.size = s) (hsz : 0 < s)
    (v : Value) (n : Nat) (xs : List Value) (hs : ac.eval sl = v) (h : SlV w e s v n xs)
    (a : Addr) (m c : Nat) (news : List Value) (hx : ac.eval x = .slice (some a) m c) (hm : 0 < m) (hl : news.length = m * s) (hnews : ∀ j u, news[j]? = some u → w.cell? (a.add j) = some u) (h1 : ∀ u ∈ news, u.oneCell' = true)
    (h63 : n + m ≤ maxLen) (hbytes : (n + m) * bytes ≤ 140737488355328)
    (hK : ∀ v' w', SlV w' e s v' (n + m) (xs ++ news) → Mod (fun k => v.ownBlock = some k) w w' → (v'.ownBlock = v.ownBlock ∨ ∃ k, v'.ownBlock = some k ∧ w.heap.size ≤ k) → wpList P ops Q rest (ac.put o.dst v') w') : wpList P ops Q (o :: rest) ac w := by
  refine wpList_plain hgd fun K hK' => ?_
  obtain ⟨v', w', hrun, r1, r2, r3⟩ := h.append (P := P) o.type i z ht hi hz hsize hby hzs hsz a m c news hm hl hnews h1 h63 hbytes
  unfold Oper.wp
  simp [execOp, ho, resolve, invoke, builtin, hs, hx, hrun, Result.andThen]
  exact hK' _ _ (hK v' w' r1 r2 r3)
/-- For the walk, at a step of a region that draws its order. -/
theorem step_append_slv {P : Program} {w : World} {ops : Array Oper} {o : Oper} {ac : Act} {K : Act → World → Prop} {Q : Exit → Act → World → Prop} {E : Prop} (hgd : o.guard = none) (sl x : Operand) (t : TypeId)
    (ho : o.op = .call { callee := .builtin .append, args := #[sl, x], argTypes := #[t, t] })
    (e : TypeId) (i : TypeInfo) (z : Value) (s bytes : Nat) (ht : P.underlying t = some (.slice e)) (hi : P.info? e = some i) (hz : i.zero = some z) (hsize : i.size = s) (hby : i.bytes = bytes) (hzs : z.cells.size = s) (hsz : 0 < s)
    (v : Value) (n : Nat) (xs : List Value) (hs : ac.eval sl = v) (h : SlV w e s v n xs)
    (a : Addr) (m c : Nat) (news : List Value) (hx : ac.eval x = .slice (some a) m c) (hm : 0 < m) (hl : news.length = m * s) (hnews : ∀ j u, news[j]? = some u → w.cell? (a.add j) = some u) (h1 : ∀ u ∈ news, u.oneCell' = true)
    (h63 : n + m ≤ maxLen) (hbytes : (n + m) * bytes ≤ 140737488355328)
    (hK : ∀ v' w', SlV w' e s v' (n + m) (xs ++ news) → Mod (fun k => v.ownBlock = some k) w w' → (v'.ownBlock = v.ownBlock ∨ ∃ k, v'.ownBlock = some k ∧ w.heap.size ≤ k) → K (ac.put o.dst v') w') :
    if Region.wanted o (yielded ops ac.tmps) = true then Oper.wp P o ac w K Q else E := by
  have hw : Region.wanted o (yielded ops ac.tmps) = true := by simp [Region.wanted, hgd]
  rw [if_pos hw]
  obtain ⟨v', w', hrun, r1, r2, r3⟩ := h.append (P := P) o.type i z ht hi hz hsize hby hzs hsz a m c news hm hl hnews h1 h63 hbytes
  unfold Oper.wp
  simp [execOp, ho, resolve, invoke, builtin, hs, hx, hrun, Result.andThen]
  exact hK v' w' r1 r2 r3
end Go.Proofs.YtohlgcdailconaaGreatDoor
