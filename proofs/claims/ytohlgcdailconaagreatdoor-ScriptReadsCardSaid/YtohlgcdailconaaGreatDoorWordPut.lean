/- The walks of word.Put and word.text. -/
import Derived.Test.YtohlgcdailconaaGreatDoorProg
import Derived.Test.YtohlgcdailconaaGreatDoorWordSpec
import Derived.Test.YtohlgcdailconaaGreatDoorBase
import Derived.Lib.Hide
import Derived.Laws.BytesArg
import Derived.WalkSpells
import Derived.WalkLawsBesides
namespace Go.Proofs.YtohlgcdailconaaGreatDoor.Word
open Go.RowKit
set_option linter.unusedVariables false
def putL (v : Int) : List Int := [v % 256, v / 256 % 256, v / 65536 % 256, v / 16777216]
def putS (v : Int) (n : Nat) : ByteArray := strOfNums ((putL v).take n)
/-- too long for n bytes? -/
def putLong (v : Int) (n : Nat) : Bool := v / 2 ^ (8 * n) != 0
end Go.Proofs.YtohlgcdailconaaGreatDoor.Word
