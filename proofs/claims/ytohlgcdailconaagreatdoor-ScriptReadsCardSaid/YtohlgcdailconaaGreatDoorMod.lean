/- 'Mod F w w'': of the blocks that were there, those of F alone may have turned. And small lemmas on heaps. -/
import Derived.Test.YtohlgcdailconaaGreatDoorBase
import Derived.Maps.RangeWalk
import Derived.Laws.Rows
namespace Go.Proofs.YtohlgcdailconaaGreatDoor
open Go.RowKit
structure Mod (F : Nat → Prop) (w w' : World) : Prop where
  os : w'.os = w.os
  tape : w'.tape = w.tape
  output : w'.output = w.output
  size : w.heap.size ≤ w'.heap.size
  block : ∀ k, k < w.heap.size → ¬ F k → w'.heap[k]? = w.heap[k]?
theorem Mod.refl (F : Nat → Prop) (w : World) : Mod F w w := ⟨rfl, rfl, rfl, Nat.le_refl _, fun _ _ _ => rfl⟩
theorem Mod.of_below {w w' : World} (h : Below w.heap.size w w') (F : Nat → Prop) : Mod F w w' := ⟨h.os, h.tape, h.output, h.size, fun k hk _ => h.block k hk⟩
/-- Two steps: the second may also turn what is new since the start. -/
theorem Mod.trans {F G : Nat → Prop} {a b c : World} (h : Mod F a b) (k : Mod G b c) (hg : ∀ i, i < b.heap.size → G i → F i ∨ a.heap.size ≤ i) : Mod F a c :=
  ⟨k.os.trans h.os, k.tape.trans h.tape, k.output.trans h.output, Nat.le_trans h.size k.size, fun i hi hf =>
    (k.block i (Nat.lt_of_lt_of_le hi h.size) (fun g => by
      rcases hg i (Nat.lt_of_lt_of_le hi h.size) g with g | g
      · exact hf g
      · omega)).trans (h.block i hi hf)⟩
theorem Mod.mono {F G : Nat → Prop} {w w' : World} (h : Mod F w w') (hf : ∀ i, i < w.heap.size → F i → G i) : Mod G w w' := ⟨h.os, h.tape, h.output, h.size, fun k hk hn => h.block k hk fun g => hn (hf k hk g)⟩
theorem Mod.same {F : Nat → Prop} {a b c : World} (h : Mod F a b) (k : Mod F b c) : Mod F a c := h.trans k fun _ _ g => .inl g
theorem Mod.below {F : Nat → Prop} {a w w' : World} {B : Nat} (k : Below B a w) (h : Mod F w w') (hB : B ≤ w.heap.size) (hf : ∀ i, i < w.heap.size → F i → B ≤ i) : Below B a w' :=
  k.trans ⟨h.os, h.tape, h.output, h.size, fun i hi => h.block i (by omega) fun g => by have := hf i (by omega) g; omega⟩
theorem Mod.toBelow {w w' : World} (h : Mod (fun _ => False) w w') : Below w.heap.size w w' := ⟨h.os, h.tape, h.output, h.size, fun k hk => h.block k hk id⟩
theorem Mod.drew {F : Nat → Prop} {a w : World} (h : Mod F a w) : Mod F a w.drew := ⟨h.os, h.tape, h.output, h.size, h.block⟩
theorem Mod.alloc {F : Nat → Prop} {a w : World} (h : Mod F a w) (o : Obj) : Mod F a (w.alloc o) :=
  ⟨h.os, h.tape, h.output, Nat.le_trans h.size (by simp), fun k hk hf => (Below.heap_alloc _ _ _ (Nat.lt_of_lt_of_le hk h.size)).trans (h.block k hk hf)⟩
theorem Mod.setCell {F : Nat → Prop} {a w : World} (h : Mod F a w) (p : Addr) (hp : F p.block ∨ a.heap.size ≤ p.block) (u : Value) : Mod F a (w.setCell p u) :=
  ⟨h.os, h.tape, h.output, Nat.le_trans h.size (by simp [World.setCell]), fun k hk hf => (Below.heap_setCell _ _ _ _ (fun e => by subst e; rcases hp with g | g; exact hf g; omega)).trans (h.block k hk hf)⟩
end Go.Proofs.YtohlgcdailconaaGreatDoor
