/- Within a round of NicOrder: a nic, a slice beside it, and the box of the step. -/
import Derived.Test.YtkjpffihmcjjpaaNicOrd
namespace Go.Proofs.Ytkjpffihmcjjpaa.Ni
open Go.RowKit
set_option linter.unusedVariables false
structure OB (w0 w : World) (nb : Nat) (S : NicS) (v : Value) (l : List ByteArray) (c : Nat) (d x : Int) (f : ByteArray) : Prop where
  nic : ∃ F, NicO w F nb S ∧ ∀ k, F k → w0.heap.size ≤ k ∧ k < w.heap.size ∧ v.ownBlock ≠ some k ∧ k ≠ c
  sl : SlV w 9 1 v l.length (l.map .string)
  vb : ∀ k, v.ownBlock = some k → w0.heap.size ≤ k ∧ k < w.heap.size ∧ k ≠ c
  bel : Below w0.heap.size w0 w
  box : w.heap[c]? = some (.cells #[.int .i64 d, .int .u16 x, .string f] 30 (0, 0))
theorem OS.box {w0 w : World} {nb : Nat} {S : NicS} {v : Value} {l : List ByteArray} (h : OS w0 w nb S v l) (d x : Int) (f : ByteArray) :
    OB w0 (w.alloc (.cells #[.int .i64 d, .int .u16 x, .string f] 30)) nb S v l w.heap.size d x f := by
  have hb := h.below (w' := w.alloc (.cells #[.int .i64 d, .int .u16 x, .string f] 30)) ((Below.refl _ _).alloc (Nat.le_refl _) _)
  obtain ⟨F, hN, hF⟩ := h.nic
  have hm : Mod (fun _ => False) w (w.alloc (.cells #[.int .i64 d, .int .u16 x, .string f] 30)) := (Mod.refl _ _).alloc _
  refine ⟨⟨F, hN.keep hm fun _ _ g => g, fun k hk => ⟨(hF k hk).1, Nat.lt_of_lt_of_le (hF k hk).2.1 hm.size, (hF k hk).2.2, fun e => ?_⟩⟩, hb.sl, fun k hk => ⟨(hb.vb k hk).1, (hb.vb k hk).2, fun e => ?_⟩, hb.bel, heap_alloc_new _ _⟩
  · have := (hF k hk).2.1; omega
  · have := (h.vb k hk).2; omega
section
variable {w0 w : World} {nb : Nat} {S : NicS} {v : Value} {l : List ByteArray} {c : Nat} {d x : Int} {f : ByteArray}
theorem OB.os (h : OB w0 w nb S v l c d x f) : OS w0 w nb S v l := by
  obtain ⟨F, hN, hF⟩ := h.nic
  exact ⟨⟨F, hN, fun k hk => ⟨(hF k hk).1, (hF k hk).2.1, (hF k hk).2.2.1⟩⟩, h.sl, fun k hk => ⟨(h.vb k hk).1, (h.vb k hk).2.1⟩, h.bel⟩
theorem OB.c0 (h : OB w0 w nb S v l c d x f) : w.cell? ⟨c, 0, none⟩ = some (.int .i64 d) := by unfold World.cell?; rw [h.box]; rfl
theorem OB.c1 (h : OB w0 w nb S v l c d x f) : w.cell? ⟨c, 1, none⟩ = some (.int .u16 x) := by unfold World.cell?; rw [h.box]; rfl
theorem OB.c2 (h : OB w0 w nb S v l c d x f) : w.cell? ⟨c, 2, none⟩ = some (.string f) := by unfold World.cell?; rw [h.box]; rfl
theorem OB.below {w' : World} (h : OB w0 w nb S v l c d x f) (hb : Below w.heap.size w w') : OB w0 w' nb S v l c d x f := by
  obtain ⟨F, hN, hF⟩ := h.nic
  have hc : c < w.heap.size := lt_of_block h.box
  exact ⟨⟨F, hN.same hb, fun k hk => ⟨(hF k hk).1, Nat.lt_of_lt_of_le (hF k hk).2.1 hb.size, (hF k hk).2.2⟩⟩, h.sl.keep fun g hg => hb.block g (h.vb g hg).2.1, fun k hk => ⟨(h.vb k hk).1, Nat.lt_of_lt_of_le (h.vb k hk).2.1 hb.size, (h.vb k hk).2.2⟩, h.bel.trans (hb.mono h.bel.size), (hb.block c hc).trans h.box⟩
theorem OB.act {S' : NicS} (h : OB w0 w nb S v l c d x f) {fn : FuncId} {args : Array Value} {r : Value}
    (hc : ∀ F, NicO w F nb S → Calls Try.prog fn args w fun e w' => e = .returned r ∧ NicO w' (Fr F w) nb S' ∧ Mod F w w') : Calls Try.prog fn args w fun e w' => e = .returned r ∧ OB w0 w' nb S' v l c d x f := by
  obtain ⟨F, hn, hF⟩ := h.nic
  have hcl : c < w.heap.size := lt_of_block h.box
  refine (hc F hn).mono fun e w' ⟨g1, g2, g3⟩ => ⟨g1, ⟨_, g2.tight, fun k hk => ?_⟩, h.sl.keep fun g hg => g3.block g (h.vb g hg).2.1 fun hx => (hF g hx).2.2.1 hg, fun k hk => ⟨(h.vb k hk).1, Nat.lt_of_lt_of_le (h.vb k hk).2.1 g3.size, (h.vb k hk).2.2⟩, Mod.below h.bel g3 h.bel.size fun k _ hk => (hF k hk).1, (g3.block c hcl fun hx => (hF c hx).2.2.2 rfl).trans h.box⟩
  rcases hk.1 with g | g
  · exact ⟨(hF k g).1, hk.2, (hF k g).2.2⟩
  · refine ⟨Nat.le_trans h.bel.size g, hk.2, fun e => ?_, fun e => ?_⟩
    · have := (h.vb k e).2.1
      omega
    · omega
theorem b_arrive (h : OB w0 w nb S v l c d x f) (u : ByteArray) (hf : u.size < 140737488355328) (g0 : 0 ≤ S.gone) (g1 : S.gone < 9223372036854775807) :
    Calls Try.prog 8 #[.pointer (some ⟨nb, 0, none⟩), .string u] w fun e w' => e = .returned (.tuple #[.int .u16 (arriveP u), .bool (arriveB S u), .int .i64 (arriveE u)]) ∧ OB w0 w' nb (arriveS S u) v l c d x f :=
  h.act fun F hn => arrive hn u hf g0 g1
theorem b_pop (h : OB w0 w nb S v l c d x f) (y : Int) (h0 : 0 ≤ y) (h1 : y < 65536) :
    Calls Try.prog 11 #[.pointer (some ⟨nb, 0, none⟩), .int .u16 y] w fun e w' => e = .returned (.tuple #[.string (nextS S y), .bool (nextB S y)]) ∧ OB w0 w' nb (popS S y) v l c d x f :=
  h.act fun F hn => (pop hn y h0 h1).mono fun e w' ⟨a, b, c⟩ => ⟨a, b.mono fun k hk => .inl hk, c⟩
theorem b_lose (h : OB w0 w nb S v l c d x f) (y : Int) (h0 : 0 ≤ y) (h1 : y < 65536) :
    Calls Try.prog 13 #[.pointer (some ⟨nb, 0, none⟩), .int .u16 y] w fun e w' => e = .returned (.int .i64 (loseE S y)) ∧ OB w0 w' nb (popS S y) v l c d x f :=
  h.act fun F hn => (lose hn y h0 h1).mono fun e w' ⟨a, b, c⟩ => ⟨a, b.mono fun k hk => .inl hk, c⟩
theorem b_swap (h : OB w0 w nb S v l c d x f) (y : Int) (h0 : 0 ≤ y) (h1 : y < 65536) :
    Calls Try.prog 12 #[.pointer (some ⟨nb, 0, none⟩), .int .u16 y] w fun e w' => e = .returned (.int .i64 (swapE S y)) ∧ OB w0 w' nb (swapS S y) v l c d x f :=
  h.act fun F hn => (swap hn y h0 h1).mono fun e w' ⟨a, b, c⟩ => ⟨a, b.mono fun k hk => .inl hk, c⟩
theorem b_send (h : OB w0 w nb S v l c d x f) (u : ByteArray) (hf : u.size < 140737488355328) (hs : S.sent.length < 4398046511104) :
    Calls Try.prog 14 #[.pointer (some ⟨nb, 0, none⟩), .string u] w fun e w' => e = .returned (.int .i64 (sendE u)) ∧ OB w0 w' nb (sendS S u) v l c d x f :=
  h.act fun F hn => send hn u hf hs
theorem b_len (h : OB w0 w nb S v l c d x f) (y : Int) (h0 : 0 ≤ y) (h1 : y < 65536) :
    Calls Try.prog 10 #[.pointer (some ⟨nb, 0, none⟩), .int .u16 y] w fun e w' => e = .returned (.int .i64 (S.q y).length) ∧ w = w' := s_len h.os y h0 h1
theorem b_to (h : OB w0 w nb S v l c d x f) (u : ByteArray) (hf : u.size < 140737488355328) :
    Calls Try.prog 9 #[.string u] w fun e w' => e = .returned (.tuple #[.int .u16 (portV u 22), .bool (portB u)]) ∧ OB w0 w' nb S v l c d x f :=
  (to u hf w).mono fun e w' ⟨a, b⟩ => ⟨a, h.below b⟩
theorem OB.hd {g off n cap : Nat} {f0 : ByteArray} {r : List ByteArray} (h : OB w0 w nb S (.slice (some ⟨g, off, none⟩) n cap) (f0 :: r) c d x f) (hn : n = r.length + 1) : w.cell? ⟨g, off, none⟩ = some (.string f0) := by
  subst hn
  have := h.sl.cell 0 (by simp)
  simpa using this
theorem OB.tl1 {g off : Nat} {f0 : ByteArray} {r : List ByteArray} (h : OB w0 w nb S (.slice (some ⟨g, off, none⟩) 1 1) (f0 :: r) c d x f) (hr : r.length = 0) : OS w0 w nb S (.slice (some ⟨g, off, none⟩) 0 0) r := by
  have := h.os
  rw [show (1 : Nat) = r.length + 1 by omega] at this
  have := OS.tail this
  rw [hr] at this
  simpa using this
theorem OB.tl2 {g off m cap : Nat} {f0 : ByteArray} {r : List ByteArray} (h : OB w0 w nb S (.slice (some ⟨g, off, none⟩) (m + 1) cap) (f0 :: r) c d x f) (hr : r.length = m) (hc : cap ≠ 1) : OS w0 w nb S (.slice (some ⟨g, off + 1, none⟩) m (cap - 1)) r := by
  subst hr
  have := OS.tail h.os
  rw [if_neg hc] at this
  exact this
end
end Go.Proofs.Ytkjpffihmcjjpaa.Ni
