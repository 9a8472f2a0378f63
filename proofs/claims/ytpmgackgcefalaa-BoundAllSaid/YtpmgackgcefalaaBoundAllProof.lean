/-
  Proved here: 'BoundAll' answers true for every input, and changes nothing. No condition.
-/
import Derived.Test.YtpmgackgcefalaaLaw
import Derived.Test.YtpmgackgcefalaaBoundAllWalks
namespace Go.Proofs.Ytpmgackgcefalaa.boundAll
open Go.ChangeShapes Go.WideShapes Go.ChangeAt Go.RowKit
open Go.ChangeMaps (open_string shut_string)

theorem walked : Walked Try.prog 5 Try.f5 fun _ _ => True := by
  intro H enc W base args ds p hval hA hk
  rw [Try.params5] at hA hval
  obtain ⟨v0, vs0, d0, ds0, p0, q0, hargs, rfl, rfl, h0, r0⟩ := trodAll_cons hA
  obtain ⟨v1, vs1, d1, ds1, p1, q1, rfl, rfl, rfl, h1, r1⟩ := trodAll_cons r0
  obtain ⟨v2, vs2, d2, ds2, p2, q2, rfl, rfl, rfl, h2, r2⟩ := trodAll_cons r1
  obtain ⟨rfl, rfl, rfl⟩ := trodAll_nil r2
  obtain rfl : args = #[v0, v1, v2] := by cases args; simp_all
  have s0 := okWide_slice Try.underlying32 (hval 0 32 v0 rfl rfl)
  obtain ⟨a0, l0⟩ := open_headers s0 h0
  obtain ⟨a1, rfl, rfl, rfl, w1⟩ := open_int Try.underlying3 (hval 1 3 v1 rfl rfl) h1
  obtain ⟨a2, rfl, rfl, rfl, w2⟩ := open_int Try.underlying3 (hval 2 3 v2 rfl rfl) h2
  exact walk_all v0 a0 a1 a2 W l0

theorem isLaw : IsLaw Rows.boundAllSpec Try.f5.params.size := ⟨rfl, fun H ds h => by match ds, h with | [_, _, _], _ => rfl⟩

set_option maxRecDepth 100000 in
theorem lifted (os : Os) (started : os.Started) (H : Type) (enc : TypeId × Value → H) :
    ReturnsInHanded {} Try.checked os 5 .any (Rows.boundAllSpec.pre6 enc Try.prog Try.f5 Rows.boundAllRow.domain false) (Rows.boundAllSpec.post enc Try.prog Try.f5 false true false false) :=
  returns_of_walked (C := Try.checked) (s := Rows.boundAllSpec) own started (by kernel_rfl) Try.func5 laidOut
    isLaw rfl Try.underlying4 (by rw [Try.params5]; exact of_decide_eq_true (by kernel_rfl))
    (ChangeSpec.witness6 (enc := enc) (C := Try.checked) false ⟨#[], #[.slice none 0 0, .int .i64 0, .int .i64 0], []⟩ 8 (by kernel_rfl) (by kernel_rfl) (by kernel_rfl) (by kernel_rfl))
    walked

/-- The statement. -/
theorem proved : Rows.BoundAllSaid :=
  OpenClaim.holds_of_wide 5 Try.f5 rfl rfl rfl rfl rfl rfl rfl ⟨rfl, rfl, rfl, rfl, rfl⟩ rfl rfl rfl rfl rfl (by kernel_rfl) Try.func5 (by kernel_rfl)
    (of_decide_eq_true (by kernel_rfl)) (by unfold Func.isWrapper; first | (rw [if_pos (by decide +kernel)]; kernel_rfl) | (rw [if_neg (by decide +kernel)]; exact ⟨rfl, rfl⟩))
    (fun os started H enc _ => lifted os started H enc)
#print axioms proved
end Go.Proofs.Ytpmgackgcefalaa.boundAll
