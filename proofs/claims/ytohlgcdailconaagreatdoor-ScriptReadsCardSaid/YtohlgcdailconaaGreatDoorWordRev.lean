/- The walks of slices.Reverse at 0, 2 and 4 bytes, and of word.turned. -/
import Derived.Test.YtohlgcdailconaaGreatDoorProg
import Derived.Test.YtohlgcdailconaaGreatDoorBase
import Derived.WalkSpells
import Derived.WalkLawsBesides
import Derived.RegionTactic
import Derived.ChangeAlike
import Derived.BigRegion
import Derived.WalkSmall
namespace Go.Proofs.YtohlgcdailconaaGreatDoor.Word
open Go.RowKit
set_option linter.unusedVariables false
end Go.Proofs.YtohlgcdailconaaGreatDoor.Word
