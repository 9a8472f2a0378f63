/-
  The document's answer for layer 2, walked on the abstract machine: the schedule.
-/
import Derived.Test.YtabffcplbjaklaaGreatDoorPart08
import Derived.Test.YtabffcplbjaklaaGreatDoorPart12
set_option linter.unusedSimpArgs false
set_option linter.unusedVariables false
set_option linter.unusedSectionVars false
set_option linter.unnecessarySimpa false
set_option linter.defProp false
namespace Go.Proofs.YtabffcplbjaklaaGreatDoor
open Go.RowKit Abs
end Go.Proofs.YtabffcplbjaklaaGreatDoor
