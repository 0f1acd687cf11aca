/- A box with a stop. -/
import Derived.Test.YtkbhokmnbpnlbaaGreatCpuW
namespace Go.Proofs.YtkbhokmnbpnlbaaGreat
open Go.RowKit Word
set_option linter.unusedVariables false
set_option linter.unusedSimpArgs false
/-- A box with a stop. -/
structure StpBox (w : World) (b : Nat) (k u y : Int) : Prop where
  blk : w.heap[b]? = some (.cells #[.int .u8 k, .int .u32 u, .int .i64 y] 67 (0, 0))
theorem StpBox.mod {F : Nat → Prop} {w w' : World} {b : Nat} {k u y : Int} (h : StpBox w b k u y) (hm : Mod F w w') (hF : ¬ F b) : StpBox w' b k u y := ⟨(hm.block _ (lt_of_block h.blk) hF).trans h.blk⟩
theorem StpBox.below {w w' : World} {b : Nat} {k u y : Int} (h : StpBox w b k u y) (hb : Below w.heap.size w w') : StpBox w' b k u y := ⟨(hb.block _ (lt_of_block h.blk)).trans h.blk⟩
theorem StpBox.cells {w : World} {b : Nat} {k u y : Int} (h : StpBox w b k u y) : w.cell? ⟨b, 0, none⟩ = some (.int .u8 k) ∧ w.cell? ⟨b, 1, none⟩ = some (.int .u32 u) ∧ w.cell? ⟨b, 2, none⟩ = some (.int .i64 y) ∧ w.frozen? ⟨b, 0, none⟩ = false ∧ w.frozen? ⟨b, 1, none⟩ = false ∧ w.frozen? ⟨b, 2, none⟩ = false := by
  unfold World.cell? World.frozen?
  rw [h.blk]
  exact ⟨rfl, rfl, rfl, rfl, rfl, rfl⟩
theorem StpBox.set {w : World} {b : Nat} {k u y : Int} (h : StpBox w b k u y) (k' u' y' : Int) : StpBox (((w.setCell ⟨b, 0, none⟩ (.int .u8 k')).setCell ⟨b, 1, none⟩ (.int .u32 u')).setCell ⟨b, 2, none⟩ (.int .i64 y')) b k' u' y' := ⟨Cp.set3_blk h.blk _ _ _⟩
theorem StpBox.get {w : World} {b : Nat} {k u y k' u' y' : Int} (h : StpBox w b k u y) (e : k = k' ∧ u = u' ∧ y = y') : StpBox w b k' u' y' := by
  obtain ⟨rfl, rfl, rfl⟩ := e
  exact h
theorem stp_mod (w : World) (b : Nat) (x y z : Value) : Mod (fun i => i = b) w (((w.setCell ⟨b, 0, none⟩ x).setCell ⟨b, 1, none⟩ y).setCell ⟨b, 2, none⟩ z) := Mod.setCell (F := fun i => i = b) (Mod.setCell (F := fun i => i = b) (Mod.setCell (F := fun i => i = b) (Mod.refl _ _) ⟨b, 0, none⟩ (.inl rfl) _) ⟨b, 1, none⟩ (.inl rfl) _) ⟨b, 2, none⟩ (.inl rfl) _
end Go.Proofs.YtkbhokmnbpnlbaaGreat
