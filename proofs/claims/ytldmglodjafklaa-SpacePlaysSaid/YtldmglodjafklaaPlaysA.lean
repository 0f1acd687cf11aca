/- Both spaces, alike; rows of steps. -/
import Derived.Test.YtldmglodjafklaaDoesC
import Derived.Test.YtldmglodjafklaaSame05
import Derived.Test.YtldmglodjafklaaSpcAlive
import Derived.Test.YtldmglodjafklaaRead
namespace Go.Proofs.Ytldmglodjafklaa
open Go.RowKit
set_option linter.unusedVariables false
namespace Sp
/-- Both, alike, of the call's own. -/
structure PS (w0 w : World) (sb mb : Nat) (A : List Pg) (rb : Nat) (lv : Value) (R : List Rp) : Prop where
  pair : Pair w sb mb A rb lv R
  ba : ∀ k, Spc.foot sb mb A k → w0.heap.size ≤ k
  br : ∀ k, Rsp.foot rb lv R k → w0.heap.size ≤ k
  bel : Below w0.heap.size w0 w
  eq : cores A = cores (rpgs R)
section
variable {w0 w w' : World} {sb mb rb : Nat} {A A' : List Pg} {lv lv' : Value} {R R' : List Rp}
theorem PS.below (h : PS w0 w sb mb A rb lv R) (hb : Below w.heap.size w w') : PS w0 w' sb mb A rb lv R := ⟨h.pair.below hb, h.ba, h.br, h.bel.trans (hb.mono h.bel.size), h.eq⟩
theorem PS.step (h : PS w0 w sb mb A rb lv R) (s : DStep w w' sb mb A rb lv R A' lv' R') (e : cores A' = cores (rpgs R')) : PS w0 w' sb mb A' rb lv' R' :=
  ⟨s.pair, fun k hk => by rcases s.fa k hk with g | g; exact h.ba k g; exact Nat.le_trans h.bel.size g, fun k hk => by rcases s.fr k hk with g | g; exact h.br k g; exact Nat.le_trans h.bel.size g,
    Mod.below h.bel s.mod h.bel.size fun k _ hk => by rcases hk with g | g; exact h.ba k g; exact h.br k g, e⟩
end
theorem StepAt.below {w w' : World} {b off i : Nat} {x : StepR} (h : StepAt w b off i x) {B : Nat} (hb : Below B w w') (hB : b < B) : StepAt w' b off i x :=
  ⟨(hb.cell (p := ⟨b, _, none⟩) hB).trans h.dod, (hb.cell (p := ⟨b, _, none⟩) hB).trans h.addr, (hb.cell (p := ⟨b, _, none⟩) hB).trans h.n, (hb.cell (p := ⟨b, _, none⟩) hB).trans h.text⟩
def noStep : StepR := ⟨0, 0, 0, ByteArray.empty⟩
theorem sl_steps {w : World} {a : Option Addr} {cap : Nat} {xs : List StepR} (h : Rd.Sl w 4 stepQ a cap xs) : (0 < xs.length → ∃ b off, a = some ⟨b, off, none⟩ ∧ ∀ i, i < xs.length → StepAt w b off i (xs.getD i noStep)) ∧ ∀ i, i < xs.length → (xs.getD i noStep).ok := by
  obtain ⟨_, _, h, _⟩ := h
  rcases h with rfl | ⟨b, off, rfl, h⟩
  · exact ⟨fun g => absurd g (by simp), fun i hi => absurd hi (by simp)⟩
  · have hg : ∀ i, i < xs.length → xs[i]? = some (xs.getD i noStep) := fun i hi => by rw [List.getD, List.getElem?_eq_getElem hi]; rfl
    refine ⟨fun _ => ⟨b, off, rfl, fun i hi => ?_⟩, fun i hi => (h i _ (hg i hi)).2⟩
    obtain ⟨⟨c0, c1, c2, c3⟩, _⟩ := h i _ (hg i hi)
    exact ⟨c0, c1, c2, c3⟩
set_option maxRecDepth 100000 in
theorem heavy_zero (a : Option Addr) (cap : Nat) (w : World) : Calls Try.prog 25 #[.slice a 0 cap] w fun e w' => e = .returned (.bool false) ∧ w = w' := by
  go_enter Try.func25, Try.ntmps25
  go_wp2
  go_loop [3, 4] (fun sn si => sn = .int .i64 0 ∧ si = .int .i64 0) (fun _ i => 300 - (intOf i).toNat)
  case atStart => exact ⟨rfl, rfl⟩
  case round =>
    obtain ⟨rfl, rfl⟩ := hrel
    go_wp2
    go_ret
    exact ⟨rfl, rfl⟩
theorem heavy_any (a : Option Addr) (len cap : Nat) (Z : Nat → StepR) (w : World) (hZ : 0 < len → ∃ b off, a = some ⟨b, off, none⟩ ∧ ∀ i, i < len → StepAt w b off i (Z i)) (hok : ∀ i, i < len → (Z i).ok) (hlen : len ≤ 9223372036854775807) :
    Calls Try.prog 25 #[.slice a len cap] w fun e w' => e = .returned (.bool (heavyB Z len)) ∧ w = w' := by
  by_cases h : 0 < len
  · obtain ⟨b, off, rfl, hs⟩ := hZ h
    exact heavy b off len cap Z w hs hok hlen
  · obtain rfl : len = 0 := by omega
    exact heavy_zero a cap w
end Sp
end Go.Proofs.Ytldmglodjafklaa
