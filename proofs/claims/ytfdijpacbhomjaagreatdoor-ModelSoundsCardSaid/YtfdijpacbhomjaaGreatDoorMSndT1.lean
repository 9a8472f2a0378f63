/-
  The card of 'ModelSounds': its facts, joined.
-/
import Derived.Test.YtfdijpacbhomjaaGreatDoorCards
import Derived.Test.YtfdijpacbhomjaaGreatDoorTie
import Derived.Deep.DeepHandedRow
import Derived.Lib.LaidTab
import Derived.Lib.LaidU8
import Derived.Lay
import Derived.MakeChecks
import Derived.Shelf.Vars
namespace Go.Proofs.YtfdijpacbhomjaaGreatDoor.modelSounds
open Go.ChangeShapes Go.WideShapes Go.ChangeAt Go.RowKit
set_option maxRecDepth 100000

theorem c1 : (Rows.modelSoundsRow.inPlace == Tryz.pinned.checked.prog.inPlace 4) = true := by kernel_rfl
theorem c2 : (Rows.modelSoundsRow.unfollowed == Tryz.pinned.checked.prog.unfollowed 4) = true := by kernel_rfl
theorem c3 : (Rows.modelSoundsRow.recurses == Tryz.pinned.checked.prog.recurses 4) = true := by kernel_rfl
theorem c4 : (Rows.modelSoundsRow.named == Tryz.pinned.checked.prog.varsNamed 4) = true := by kernel_rfl
theorem closed : joinedFacts Tryz.pinned.checked.prog 4 Tryz.f4 (OpenSpec.ofChange Rows.modelSoundsSpec).bare Rows.modelSoundsRow = true := by
  unfold joinedFacts
  rw [c1, c2, c3, c4]
  kernel_rfl

end Go.Proofs.YtfdijpacbhomjaaGreatDoor.modelSounds
