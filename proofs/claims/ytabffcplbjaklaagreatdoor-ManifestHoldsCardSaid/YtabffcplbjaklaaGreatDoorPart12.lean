/-
  The walks of the document's answer for layer 2: a text with what stands behind it.
-/
import Derived.Test.YtabffcplbjaklaaGreatDoorPart11
set_option linter.unusedSimpArgs false
set_option linter.unusedVariables false
set_option linter.unusedSectionVars false
set_option linter.unnecessarySimpa false
set_option linter.defProp false
namespace Go.Proofs.YtabffcplbjaklaaGreatDoor
open Go.RowKit
end Go.Proofs.YtabffcplbjaklaaGreatDoor
