/-
  The document's answer for layer 2, walked on the abstract machine: a text with what stands behind it; the constants.
-/
import Derived.Test.YtabffcplbjaklaaGreatDoorPart13
set_option linter.unusedSimpArgs false
set_option linter.unusedVariables false
set_option linter.unusedSectionVars false
set_option linter.unnecessarySimpa false
set_option linter.defProp false
namespace Go.Proofs.YtabffcplbjaklaaGreatDoor
open Go.RowKit Abs
end Go.Proofs.YtabffcplbjaklaaGreatDoor
