/-
  Proved here: 'BlameValid' answers true for every input, and changes nothing. No condition.
-/
import Derived.Test.YtpmgackgcefalaaGreatPart17
set_option linter.unusedSimpArgs false
set_option linter.unusedVariables false
set_option linter.unusedSectionVars false
set_option linter.unnecessarySimpa false
set_option linter.defProp false
namespace Go.Proofs.YtpmgackgcefalaaGreat.blameValid
open Go.ChangeShapes Go.WideShapes Go.ChangeAt Go.RowKit
theorem isLaw : IsLaw Rows.blameValidSpec Tryz.f4.params.size := ⟨rfl, fun H ds h => by match ds, h with | [_, _, _], _ => rfl⟩
set_option maxRecDepth 100000 in
theorem lifted (os : Os) (started : os.Started) (H : Type) (enc : TypeId × Value → H) :
    ReturnsInHanded {} Tryz.checked os 4 .any (Rows.blameValidSpec.pre6 enc Tryz.prog Tryz.f4 Rows.blameValidRow.domain false) (Rows.blameValidSpec.post enc Tryz.prog Tryz.f4 false true false false) :=
  returns_of_walked_sized (C := Tryz.checked) (s := Rows.blameValidSpec) own started (by kernel_rfl) Tryz.func4 laidOut
    isLaw rfl Tryz.underlying4 (by rw [Tryz.params4]; exact of_decide_eq_true (by kernel_rfl))
    (ChangeSpec.witness6 (enc := enc) (C := Tryz.checked) false ⟨#[], #[.string .empty, .agg #[.slice none 0 0, .slice none 0 0, .int .i64 0, .int .i64 0, .slice none 0 0, .int .i64 0], .agg #[.int .i64 0, .string .empty, .string .empty]], []⟩ 8 (by kernel_rfl) (by kernel_rfl) (by kernel_rfl) (by kernel_rfl))
    blameValid_walked
theorem proved : Rows.BlameValidSaid :=
  OpenClaim.holds_of_wide 4 Tryz.f4 rfl rfl rfl rfl rfl rfl rfl ⟨rfl, rfl, rfl, rfl, rfl⟩ rfl rfl rfl rfl rfl (by kernel_rfl) Tryz.func4 (by kernel_rfl)
    (of_decide_eq_true (by kernel_rfl)) (by unfold Func.isWrapper; first | (rw [if_pos (by decide +kernel)]; kernel_rfl) | (rw [if_neg (by decide +kernel)]; exact ⟨rfl, rfl⟩))
    (fun os started H enc _ => lifted os started H enc)
#print axioms proved
end Go.Proofs.YtpmgackgcefalaaGreat.blameValid
