/- The walk of word.Get. -/
import Derived.Test.YtohlgcdailconaaGreatDoorWordPut
import Derived.WalkSpells
import Derived.Test.YtohlgcdailconaaGreatDoorWordNum
import Derived.LoopTactic
namespace Go.Proofs.YtohlgcdailconaaGreatDoor.Word
open Go.RowKit
set_option linter.unusedVariables false
def getRel (s : ByteArray) (v i : Value) : Prop := ∃ (k : Nat) (x : Int), k ≤ s.size ∧ i = .int .i64 k ∧ v = .int .u32 x ∧ 0 ≤ x ∧ x ≤ 4294967295 ∧ x = getV ((nums s).take k)
end Go.Proofs.YtohlgcdailconaaGreatDoor.Word
