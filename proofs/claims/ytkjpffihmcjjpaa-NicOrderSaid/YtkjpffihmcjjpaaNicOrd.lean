/- A nic and a slice beside it: what NicOrder keeps at a round's head. -/
import Derived.Test.YtkjpffihmcjjpaaNicSteps
namespace Go.Proofs.Ytkjpffihmcjjpaa.Ni
open Go.RowKit
set_option linter.unusedVariables false
theorem NicO.tight {w : World} {F : Nat → Prop} {nb : Nat} {S : NicS} (h : NicO w F nb S) : NicO w (fun k => F k ∧ k < w.heap.size) nb S := by
  obtain ⟨mb, V, sv, hn, g⟩ := h
  exact ⟨mb, V, sv, hn, fun k hk => ⟨g k hk, hn.lt k hk⟩⟩
theorem NicO.small {w : World} {F : Nat → Prop} {nb : Nat} {S : NicS} (h : NicO w F nb S) (x : Int) : (S.q x).length ≤ 8 := by
  obtain ⟨mb, V, sv, hn, g⟩ := h
  exact hn.small x
structure OS (w0 w : World) (nb : Nat) (S : NicS) (v : Value) (l : List ByteArray) : Prop where
  nic : ∃ F, NicO w F nb S ∧ ∀ k, F k → w0.heap.size ≤ k ∧ k < w.heap.size ∧ v.ownBlock ≠ some k
  sl : SlV w 9 1 v l.length (l.map .string)
  vb : ∀ k, v.ownBlock = some k → w0.heap.size ≤ k ∧ k < w.heap.size
  bel : Below w0.heap.size w0 w
theorem OS.of {w0 w : World} {nb : Nat} {S : NicS} (h : Own w0 w nb S) : OS w0 w nb S (.slice none 0 0) [] :=
  ⟨⟨_, h.nic.tight, fun k hk => ⟨hk.1, hk.2, by simp [Value.ownBlock]⟩⟩, SlV.nil _ _ _, fun k hk => by simp [Value.ownBlock] at hk, h.bel⟩
theorem OS.below {w0 w w' : World} {nb : Nat} {S : NicS} {v : Value} {l : List ByteArray} (h : OS w0 w nb S v l) (hb : Below w.heap.size w w') : OS w0 w' nb S v l := by
  obtain ⟨F, hn, hF⟩ := h.nic
  exact ⟨⟨F, hn.same hb, fun k hk => ⟨(hF k hk).1, Nat.lt_of_lt_of_le (hF k hk).2.1 hb.size, (hF k hk).2.2⟩⟩, h.sl.keep fun g hg => hb.block g (h.vb g hg).2, fun k hk => ⟨(h.vb k hk).1, Nat.lt_of_lt_of_le (h.vb k hk).2 hb.size⟩, h.bel.trans (hb.mono h.bel.size)⟩
/-- An act upon the nic. -/
theorem OS.act {w0 w : World} {nb : Nat} {S S' : NicS} {v : Value} {l : List ByteArray} (h : OS w0 w nb S v l) {f : FuncId} {args : Array Value} {r : Value}
    (hc : ∀ F, NicO w F nb S → Calls Try.prog f args w fun e w' => e = .returned r ∧ NicO w' (Fr F w) nb S' ∧ Mod F w w') : Calls Try.prog f args w fun e w' => e = .returned r ∧ OS w0 w' nb S' v l := by
  obtain ⟨F, hn, hF⟩ := h.nic
  refine (hc F hn).mono fun e w' ⟨g1, g2, g3⟩ => ⟨g1, ⟨_, g2.tight, fun k hk => ?_⟩, h.sl.keep fun g hg => g3.block g (h.vb g hg).2 fun hx => (hF g hx).2.2 hg, fun k hk => ⟨(h.vb k hk).1, Nat.lt_of_lt_of_le (h.vb k hk).2 g3.size⟩, Mod.below h.bel g3 h.bel.size fun k _ hk => (hF k hk).1⟩
  rcases hk.1 with g | g
  · exact ⟨(hF k g).1, hk.2, (hF k g).2.2⟩
  · refine ⟨Nat.le_trans h.bel.size g, hk.2, fun e => ?_⟩
    have := (h.vb k e).2
    omega
section
variable {w0 w : World} {nb : Nat} {S : NicS} {v : Value} {l : List ByteArray}
theorem s_arrive (h : OS w0 w nb S v l) (f : ByteArray) (hf : f.size < 140737488355328) (g0 : 0 ≤ S.gone) (g1 : S.gone < 9223372036854775807) :
    Calls Try.prog 8 #[.pointer (some ⟨nb, 0, none⟩), .string f] w fun e w' => e = .returned (.tuple #[.int .u16 (arriveP f), .bool (arriveB S f), .int .i64 (arriveE f)]) ∧ OS w0 w' nb (arriveS S f) v l :=
  h.act fun F hn => arrive hn f hf g0 g1
theorem s_pop (h : OS w0 w nb S v l) (x : Int) (h0 : 0 ≤ x) (h1 : x < 65536) :
    Calls Try.prog 11 #[.pointer (some ⟨nb, 0, none⟩), .int .u16 x] w fun e w' => e = .returned (.tuple #[.string (nextS S x), .bool (nextB S x)]) ∧ OS w0 w' nb (popS S x) v l :=
  h.act fun F hn => (pop hn x h0 h1).mono fun e w' ⟨a, b, c⟩ => ⟨a, b.mono fun k hk => .inl hk, c⟩
theorem s_lose (h : OS w0 w nb S v l) (x : Int) (h0 : 0 ≤ x) (h1 : x < 65536) :
    Calls Try.prog 13 #[.pointer (some ⟨nb, 0, none⟩), .int .u16 x] w fun e w' => e = .returned (.int .i64 (loseE S x)) ∧ OS w0 w' nb (popS S x) v l :=
  h.act fun F hn => (lose hn x h0 h1).mono fun e w' ⟨a, b, c⟩ => ⟨a, b.mono fun k hk => .inl hk, c⟩
theorem s_swap (h : OS w0 w nb S v l) (x : Int) (h0 : 0 ≤ x) (h1 : x < 65536) :
    Calls Try.prog 12 #[.pointer (some ⟨nb, 0, none⟩), .int .u16 x] w fun e w' => e = .returned (.int .i64 (swapE S x)) ∧ OS w0 w' nb (swapS S x) v l :=
  h.act fun F hn => (swap hn x h0 h1).mono fun e w' ⟨a, b, c⟩ => ⟨a, b.mono fun k hk => .inl hk, c⟩
theorem s_send (h : OS w0 w nb S v l) (f : ByteArray) (hf : f.size < 140737488355328) (hs : S.sent.length < 4398046511104) :
    Calls Try.prog 14 #[.pointer (some ⟨nb, 0, none⟩), .string f] w fun e w' => e = .returned (.int .i64 (sendE f)) ∧ OS w0 w' nb (sendS S f) v l :=
  h.act fun F hn => send hn f hf hs
theorem s_len (h : OS w0 w nb S v l) (x : Int) (h0 : 0 ≤ x) (h1 : x < 65536) :
    Calls Try.prog 10 #[.pointer (some ⟨nb, 0, none⟩), .int .u16 x] w fun e w' => e = .returned (.int .i64 (S.q x).length) ∧ w = w' := by
  obtain ⟨F, ⟨mb, V, sv, hn, _⟩, _⟩ := h.nic
  exact len hn x h0 h1
theorem OS.small (h : OS w0 w nb S v l) (x : Int) : (S.q x).length ≤ 8 := by
  obtain ⟨F, hn, _⟩ := h.nic
  exact hn.small x
end
/-- What append leaves of the slice. -/
theorem OS.app {w0 w w' : World} {nb : Nat} {S : NicS} {v v' : Value} {l : List ByteArray} {f : ByteArray} {o : Obj} {n : Nat} (h : OS w0 w nb S v l) (q1 : SlV w' 9 1 v' (n + 1) (l.map .string ++ [.string f])) (q2 : Mod (fun k => v.ownBlock = some k) (w.alloc o) w') (q3 : v'.ownBlock = v.ownBlock ∨ ∃ k, v'.ownBlock = some k ∧ (w.alloc o).heap.size ≤ k) : OS w0 w' nb S v' (l ++ [f]) := by
  have hn : n = l.length := by have := q1.1; simp at this; omega
  subst hn
  obtain ⟨F, hN, hF⟩ := h.nic
  have hm : Mod (fun k => v.ownBlock = some k) w w' := ((Mod.refl _ _).alloc o).same q2
  refine ⟨⟨F, hN.keep hm fun k hk => (hF k hk).2.2, fun k hk => ⟨(hF k hk).1, Nat.lt_of_lt_of_le (hF k hk).2.1 hm.size, fun e => ?_⟩⟩, by simpa using q1, fun k hk => ?_, Mod.below h.bel hm h.bel.size fun k _ hk => (h.vb k hk).1⟩
  · rcases q3 with g | ⟨k', g, hk'⟩
    · exact (hF k hk).2.2 (g ▸ e)
    · rw [e] at g
      cases g
      have := (hF k hk).2.1
      simp at hk'
      omega
  · obtain ⟨g, hg, hlt⟩ := q1.lt (by omega)
    rw [hk] at hg
    cases hg
    refine ⟨?_, hlt⟩
    rcases q3 with g | ⟨k', g, hk'⟩
    · exact (h.vb k (g ▸ hk)).1
    · rw [hk] at g
      cases g
      have := h.bel.size
      simp at hk'
      omega
theorem SlV.tail {w : World} {e : TypeId} {g off n cap : Nat} {x : Value} {xs : List Value} (h : SlV w e 1 (.slice (some ⟨g, off, none⟩) (n + 1) cap) (n + 1) (x :: xs)) : SlV w e 1 (.slice (some ⟨g, if cap = 1 then off else off + 1, none⟩) n (cap - 1)) n xs := by
  obtain ⟨hl, h⟩ := h
  rcases h with ⟨h0, _⟩ | ⟨g', off', cap', cur, hv, hg, hc, hm, hs, ht⟩
  · omega
  · simp only [Value.slice.injEq, Option.some.injEq, Addr.mk.injEq, and_true, true_and] at hv
    obtain ⟨⟨rfl, rfl⟩, rfl⟩ := hv
    have hx : xs.length = n := by simp at hl; omega
    by_cases hc1 : cap = 1
    · subst hc1
      obtain rfl : n = 0 := by omega
      exact ⟨by omega, .inl ⟨rfl, _, rfl⟩⟩
    · rw [if_neg hc1]
      refine ⟨by omega, .inr ⟨g, off + 1, cap - 1, cur, rfl, hg, by omega, by omega, by omega, fun j hj => ?_⟩⟩
      have := ht (j + 1) (by omega)
      rw [show off + (j + 1) = off + 1 + j by omega] at this
      rw [this]
      rfl
theorem OS.tail {w0 w : World} {nb : Nat} {S : NicS} {f : ByteArray} {r : List ByteArray} {g off cap : Nat} (h : OS w0 w nb S (.slice (some ⟨g, off, none⟩) (r.length + 1) cap) (f :: r)) : OS w0 w nb S (.slice (some ⟨g, if cap = 1 then off else off + 1, none⟩) r.length (cap - 1)) r := by
  obtain ⟨F, hN, hF⟩ := h.nic
  exact ⟨⟨F, hN, fun k hk => ⟨(hF k hk).1, (hF k hk).2.1, (hF k hk).2.2⟩⟩, SlV.tail h.sl, h.vb, h.bel⟩
/-! ### the plain law: what the queue at a port is behind an act -/
theorem q_goneS (S : NicS) (g : Int) : (goneS S g).q = S.q := rfl
theorem q_qSet_same (S : NicS) (x : Int) (l : List ByteArray) : (qSet S x l).q x = l := updQ_same _ _ _
theorem q_qSet_other (S : NicS) {x y : Int} (l : List ByteArray) (h : y ≠ x) : (qSet S x l).q y = S.q y := updQ_other _ _ _ h
theorem q_arrive_not (S : NicS) (f : ByteArray) (p : Int) (h : arriveB S f = false ∨ portV f 22 ≠ p) : (arriveS S f).q p = S.q p := by
  unfold arriveS
  by_cases hm : mayB f = true
  · rw [if_pos hm]
    by_cases hk : portB f = true ∧ (S.q (portV f 22)).length < 8
    · rw [if_pos hk]
      rcases h with h | h
      · unfold arriveB at h
        rw [hm, hk.1, decide_eq_true hk.2] at h
        cases h
      · exact q_qSet_other _ _ (Ne.symm h)
    · rw [if_neg hk]; rfl
  · rw [if_neg hm]
theorem q_arrive_kept (S : NicS) (f : ByteArray) (h : arriveB S f = true) : (arriveS S f).q (portV f 22) = S.q (portV f 22) ++ [f] := by
  unfold arriveB at h
  simp only [Bool.and_eq_true, decide_eq_true_eq] at h
  unfold arriveS
  rw [if_pos h.1.1, if_pos ⟨h.1.2, h.2⟩, q_qSet_same]
theorem q_pop_other (S : NicS) {x p : Int} (h : p ≠ x) : (popS S x).q p = S.q p := by
  unfold popS; split
  · rfl
  · exact q_qSet_other _ _ h
theorem q_pop_same (S : NicS) (x : Int) : (popS S x).q x = (S.q x).tail := by
  unfold popS; split
  · rename_i h; rw [h]; rfl
  · rename_i h; rw [h, q_qSet_same]; rfl
theorem q_swap_other (S : NicS) {x p : Int} (h : p ≠ x) : (swapS S x).q p = S.q p := by
  unfold swapS; split
  · exact updQ_other _ _ _ h
  · rfl
theorem q_send (S : NicS) (f : ByteArray) : (sendS S f).q = S.q := by unfold sendS; split <;> rfl
theorem gone_arrive (S : NicS) (f : ByteArray) (h : 0 ≤ S.gone) : 0 ≤ (arriveS S f).gone ∧ (arriveS S f).gone ≤ S.gone + 1 := by
  unfold arriveS; split
  · split
    · exact ⟨h, by show S.gone ≤ _; omega⟩
    · exact ⟨by show 0 ≤ S.gone + 1; omega, Int.le_refl _⟩
  · omega
theorem gone_pop (S : NicS) (x : Int) : (popS S x).gone = S.gone := by unfold popS; split <;> rfl
theorem gone_swap (S : NicS) (x : Int) : (swapS S x).gone = S.gone := by unfold swapS; split <;> rfl
theorem gone_send (S : NicS) (f : ByteArray) : (sendS S f).gone = S.gone := by unfold sendS; split <;> rfl
theorem sent_arrive (S : NicS) (f : ByteArray) : (arriveS S f).sent = S.sent := by
  unfold arriveS; split
  · split <;> rfl
  · rfl
theorem sent_pop (S : NicS) (x : Int) : (popS S x).sent = S.sent := by unfold popS; split <;> rfl
theorem sent_swap (S : NicS) (x : Int) : (swapS S x).sent = S.sent := by unfold swapS; split <;> rfl
theorem sent_send (S : NicS) (f : ByteArray) : (sendS S f).sent.length ≤ S.sent.length + 1 := by
  unfold sendS; split
  · simp
  · omega
/-- How many acts were done bounds what was dropped and what was sent. -/
def bnd (S : NicS) (k : Nat) : Prop := 0 ≤ S.gone ∧ S.gone ≤ k ∧ S.sent.length ≤ k
theorem bnd_arrive {S : NicS} {k : Nat} (h : bnd S k) (f : ByteArray) : bnd (arriveS S f) (k + 1) := by
  have := gone_arrive S f h.1
  have := h.2.1
  have := h.2.2
  refine ⟨by omega, by omega, ?_⟩
  rw [sent_arrive]; omega
theorem bnd_pop {S : NicS} {k : Nat} (h : bnd S k) (x : Int) : bnd (popS S x) (k + 1) := by
  obtain ⟨a, b, c⟩ := h
  refine ⟨?_, ?_, ?_⟩
  · rw [gone_pop]; exact a
  · rw [gone_pop]; omega
  · rw [sent_pop]; omega
theorem bnd_swap {S : NicS} {k : Nat} (h : bnd S k) (x : Int) : bnd (swapS S x) (k + 1) := by
  obtain ⟨a, b, c⟩ := h
  refine ⟨?_, ?_, ?_⟩
  · rw [gone_swap]; exact a
  · rw [gone_swap]; omega
  · rw [sent_swap]; omega
theorem bnd_send {S : NicS} {k : Nat} (h : bnd S k) (f : ByteArray) : bnd (sendS S f) (k + 1) := by
  obtain ⟨a, b, c⟩ := h
  have := sent_send S f
  refine ⟨?_, ?_, ?_⟩
  · rw [gone_send]; exact a
  · rw [gone_send]; omega
  · omega
theorem bnd_mono {S : NicS} {k m : Nat} (h : bnd S k) (hm : k ≤ m) : bnd S m := ⟨h.1, by have := h.2.1; omega, by have := h.2.2; omega⟩
end Go.Proofs.Ytkjpffihmcjjpaa.Ni
