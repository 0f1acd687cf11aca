/- The walks of word.Get, word.GetHigh. -/
import Derived.Test.YtohlgcdailconaaGreatDoorWordRev
import Derived.WalkSpells
import Derived.Test.YtohlgcdailconaaGreatDoorWordNum
import Derived.Test.YtohlgcdailconaaGreatDoorWordGetA
import Derived.LoopTactic
namespace Go.Proofs.YtohlgcdailconaaGreatDoor.Word
open Go.RowKit
set_option linter.unusedVariables false
theorem reverse_bd {l : List Int} (h : ∀ x, x ∈ l → 0 ≤ x ∧ x < 256) : ∀ x, x ∈ l.reverse → 0 ≤ x ∧ x < 256 := fun x hx => h x (by simpa using hx)
theorem list_of2 (l : List Int) (h : l.length = 2) : [l.getD 1 0, l.getD 0 0] = l.reverse := by
  match l, h with
  | [a, b], _ => rfl
theorem list_of4 (l : List Int) (h : l.length = 4) : [l.getD 3 0, l.getD 2 0, l.getD 1 0, l.getD 0 0] = l.reverse := by
  match l, h with
  | [a, b, c, d], _ => rfl
end Go.Proofs.YtohlgcdailconaaGreatDoor.Word
