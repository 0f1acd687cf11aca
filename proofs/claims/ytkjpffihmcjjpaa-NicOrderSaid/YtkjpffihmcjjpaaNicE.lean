/- A nic of the call's own: the contracts in one form. -/
import Derived.Test.YtkjpffihmcjjpaaNicNilW
namespace Go.Proofs.Ytkjpffihmcjjpaa.Ni
open Go.RowKit
set_option linter.unusedVariables false
structure Own (w0 w : World) (nb : Nat) (S : NicS) : Prop where
  nic : NicO w (fun k => w0.heap.size ≤ k) nb S
  bel : Below w0.heap.size w0 w
theorem Own.below {w0 w w' : World} {nb : Nat} {S : NicS} (h : Own w0 w nb S) (k : Below w.heap.size w w') : Own w0 w' nb S := ⟨h.nic.same k, h.bel.trans (k.mono h.bel.size)⟩
theorem Own.mod {w0 w w' : World} {nb : Nat} {S S' : NicS} (h : Own w0 w nb S) (hn : NicO w' (fun k => w0.heap.size ≤ k) nb S') (hm : Mod (fun k => w0.heap.size ≤ k) w w') : Own w0 w' nb S' :=
  ⟨hn, Mod.below h.bel hm h.bel.size fun k _ hk => hk⟩
theorem Own.fr {w0 w w' : World} {nb : Nat} {S S' : NicS} (h : Own w0 w nb S) (hn : NicO w' (Fr (fun k => w0.heap.size ≤ k) w) nb S') (hm : Mod (fun k => w0.heap.size ≤ k) w w') : Own w0 w' nb S' :=
  h.mod (hn.mono fun k hk => hk.elim id fun g => Nat.le_trans h.bel.size g) hm
theorem o_new (w : World) : Calls Try.prog 7 #[] w fun e w' => e = .returned (.pointer (some ⟨w.heap.size + 1, 0, none⟩)) ∧ Own w w' (w.heap.size + 1) newS :=
  (new w).mono fun e w' ⟨h1, h2, h3, _⟩ => ⟨h1, ⟨_, _, _, h2, fun k hk => by
    rcases hk with rfl | rfl | g | ⟨x, g⟩
    · omega
    · omega
    · simp [Value.ownBlock] at g
    · simp [Value.ownBlock] at g⟩, h3⟩
section
variable {w0 w : World} {nb : Nat} {S : NicS}
theorem o_arrive (h : Own w0 w nb S) (f : ByteArray) (hf : f.size < 140737488355328) (g0 : 0 ≤ S.gone) (g1 : S.gone < 9223372036854775807) :
    Calls Try.prog 8 #[.pointer (some ⟨nb, 0, none⟩), .string f] w fun e w' => e = .returned (.tuple #[.int .u16 (arriveP f), .bool (arriveB S f), .int .i64 (arriveE f)]) ∧ Own w0 w' nb (arriveS S f) :=
  (arrive h.nic f hf g0 g1).mono fun e w' ⟨g1, g2, g3⟩ => ⟨g1, h.fr g2 g3⟩
theorem o_pop (h : Own w0 w nb S) (x : Int) (h0 : 0 ≤ x) (h1 : x < 65536) :
    Calls Try.prog 11 #[.pointer (some ⟨nb, 0, none⟩), .int .u16 x] w fun e w' => e = .returned (.tuple #[.string (nextS S x), .bool (nextB S x)]) ∧ Own w0 w' nb (popS S x) :=
  (pop h.nic x h0 h1).mono fun e w' ⟨g1, g2, g3⟩ => ⟨g1, h.mod g2 g3⟩
theorem o_lose (h : Own w0 w nb S) (x : Int) (h0 : 0 ≤ x) (h1 : x < 65536) :
    Calls Try.prog 13 #[.pointer (some ⟨nb, 0, none⟩), .int .u16 x] w fun e w' => e = .returned (.int .i64 (loseE S x)) ∧ Own w0 w' nb (popS S x) :=
  (lose h.nic x h0 h1).mono fun e w' ⟨g1, g2, g3⟩ => ⟨g1, h.mod g2 g3⟩
theorem o_swap (h : Own w0 w nb S) (x : Int) (h0 : 0 ≤ x) (h1 : x < 65536) :
    Calls Try.prog 12 #[.pointer (some ⟨nb, 0, none⟩), .int .u16 x] w fun e w' => e = .returned (.int .i64 (swapE S x)) ∧ Own w0 w' nb (swapS S x) :=
  (swap h.nic x h0 h1).mono fun e w' ⟨g1, g2, g3⟩ => ⟨g1, h.mod g2 g3⟩
theorem o_send (h : Own w0 w nb S) (f : ByteArray) (hf : f.size < 140737488355328) (hs : S.sent.length < 4398046511104) :
    Calls Try.prog 14 #[.pointer (some ⟨nb, 0, none⟩), .string f] w fun e w' => e = .returned (.int .i64 (sendE f)) ∧ Own w0 w' nb (sendS S f) :=
  (send h.nic f hf hs).mono fun e w' ⟨g1, g2, g3⟩ => ⟨g1, h.fr g2 g3⟩
theorem o_next (h : Own w0 w nb S) (x : Int) (h0 : 0 ≤ x) (h1 : x < 65536) :
    Calls Try.prog 15 #[.pointer (some ⟨nb, 0, none⟩), .int .u16 x] w fun e w' => e = .returned (.tuple #[.string (nextS S x), .bool (nextB S x)]) ∧ w = w' := by
  obtain ⟨mb, V, sv, hn, _⟩ := h.nic
  exact next hn x h0 h1
theorem o_len (h : Own w0 w nb S) (x : Int) (h0 : 0 ≤ x) (h1 : x < 65536) :
    Calls Try.prog 10 #[.pointer (some ⟨nb, 0, none⟩), .int .u16 x] w fun e w' => e = .returned (.int .i64 (S.q x).length) ∧ w = w' := by
  obtain ⟨mb, V, sv, hn, _⟩ := h.nic
  exact len hn x h0 h1
theorem o_dropped (h : Own w0 w nb S) : Calls Try.prog 17 #[.pointer (some ⟨nb, 0, none⟩)] w fun e w' => e = .returned (.int .i64 S.gone) ∧ w = w' := by
  obtain ⟨mb, V, sv, hn, _⟩ := h.nic
  exact dropped hn
theorem o_sent (h : Own w0 w nb S) (hs : S.sent.length < 4398046511104) (hne : S.sent ≠ []) :
    Calls Try.prog 16 #[.pointer (some ⟨nb, 0, none⟩)] w fun e w' => ∃ a cap, e = .returned (.slice a S.sent.length cap) ∧ SlV w' 9 1 (.slice a S.sent.length cap) S.sent.length (S.sent.map .string) ∧ Own w0 w' nb S ∧ Below w.heap.size w w' := by
  obtain ⟨mb, V, sv, hn, _⟩ := h.nic
  exact (sent hn hs hne).mono fun e w' ⟨a, cap, g1, g2, g3, _⟩ => ⟨a, cap, g1, g2, h.below g3, g3⟩
end
end Go.Proofs.Ytkjpffihmcjjpaa.Ni
