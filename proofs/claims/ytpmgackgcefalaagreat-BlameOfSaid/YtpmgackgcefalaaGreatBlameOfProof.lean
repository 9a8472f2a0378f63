/-
  Proved here: 'BlameOf' answers true for every input, and changes nothing. No condition.
-/
import Derived.Test.YtpmgackgcefalaaGreatPart17
set_option linter.unusedSimpArgs false
set_option linter.unusedVariables false
set_option linter.unusedSectionVars false
set_option linter.unnecessarySimpa false
set_option linter.defProp false
namespace Go.Proofs.YtpmgackgcefalaaGreat.blameOf
open Go.ChangeShapes Go.WideShapes Go.ChangeAt Go.RowKit
theorem isLaw : IsLaw Rows.blameOfSpec Tryz.f3.params.size := ⟨rfl, fun H ds h => by match ds, h with | [_, _, _], _ => rfl⟩
set_option maxRecDepth 100000 in
theorem lifted (os : Os) (started : os.Started) (H : Type) (enc : TypeId × Value → H) :
    ReturnsInHanded {} Tryz.checked os 3 .any (Rows.blameOfSpec.pre6 enc Tryz.prog Tryz.f3 Rows.blameOfRow.domain false) (Rows.blameOfSpec.post enc Tryz.prog Tryz.f3 false true false false) :=
  returns_of_walked_sized (C := Tryz.checked) (s := Rows.blameOfSpec) own started (by kernel_rfl) Tryz.func3 laidOut
    isLaw rfl Tryz.underlying4 (by rw [Tryz.params3]; exact of_decide_eq_true (by kernel_rfl))
    (ChangeSpec.witness6 (enc := enc) (C := Tryz.checked) false ⟨#[], #[.agg #[.slice none 0 0, .slice none 0 0, .int .i64 0, .int .i64 0, .slice none 0 0, .int .i64 0], .slice none 0 0, .agg #[.int .i64 0, .string .empty, .int .i64 0, .int .i64 0, .int .i64 0, .string .empty, .string .empty, .slice none 0 0]], []⟩ 8 (by kernel_rfl) (by kernel_rfl) (by kernel_rfl) (by kernel_rfl))
    blameOf_walked
theorem proved : Rows.BlameOfSaid :=
  OpenClaim.holds_of_wide 3 Tryz.f3 rfl rfl rfl rfl rfl rfl rfl ⟨rfl, rfl, rfl, rfl, rfl⟩ rfl rfl rfl rfl rfl (by kernel_rfl) Tryz.func3 (by kernel_rfl)
    (of_decide_eq_true (by kernel_rfl)) (by unfold Func.isWrapper; first | (rw [if_pos (by decide +kernel)]; kernel_rfl) | (rw [if_neg (by decide +kernel)]; exact ⟨rfl, rfl⟩))
    (fun os started H enc _ => lifted os started H enc)
#print axioms proved
end Go.Proofs.YtpmgackgcefalaaGreat.blameOf
