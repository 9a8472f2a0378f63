/-
  Proved here: the card of 'ModelSounds': it answers true for every input, and changes nothing, where the library's variables hold what its text lays. No further condition.
-/
import Derived.Test.YtfdijpacbhomjaaGreatDoorMSndT1
import Derived.Test.YtfdijpacbhomjaaGreatDoorMSndT2
import Derived.Test.YtfdijpacbhomjaaGreatDoorMSndT3
namespace Go.Proofs.YtfdijpacbhomjaaGreatDoor.modelSounds
open Go.ChangeShapes Go.WideShapes Go.ChangeAt Go.RowKit Abs
set_option maxRecDepth 100000

theorem said : Rows.ModelSoundsSaid :=
  OpenClaim.holds_of_cond 4 Tryz.f4 rfl rfl rfl rfl rfl rfl rfl ⟨rfl, rfl, rfl, rfl, rfl⟩ rfl rfl rfl rfl rfl (by kernel_rfl) Tryz.func4 closed
    (of_decide_eq_true (by kernel_rfl)) (by unfold Func.isWrapper; first | (rw [if_pos (by decide +kernel)]; kernel_rfl) | (rw [if_neg (by decide +kernel)]; exact ⟨rfl, rfl⟩))
    (fun os started H enc _ F => by rw [OpenClaim.pre_eq_preRow]; exact lifted os started H enc F)

/-- The statement. -/
theorem proved : Rows.ModelSoundsCardSaid :=
  Claim7.holds_tied_plain_at .later [] _ _ _ _ said (fun _ h => by cases h) d1 (fun _ h => by cases h) modelSounds_row_tie rfl ⟨rfl, rfl⟩ d2 rfl plain d3
#print axioms proved
end Go.Proofs.YtfdijpacbhomjaaGreatDoor.modelSounds
