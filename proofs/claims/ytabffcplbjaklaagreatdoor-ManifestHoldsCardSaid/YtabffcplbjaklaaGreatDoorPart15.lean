/-
  The document's answer for layer 2, walked on the abstract machine: the sum.
-/
import Derived.Test.YtabffcplbjaklaaGreatDoorPart14
set_option linter.unusedSimpArgs false
set_option linter.unusedVariables false
set_option linter.unusedSectionVars false
set_option linter.unnecessarySimpa false
set_option linter.defProp false
namespace Go.Proofs.YtabffcplbjaklaaGreatDoor
open Go.RowKit Abs
def c8 (v : Sha.W8) : List Value := [.int .i64 (v.a : Int), .int .i64 (v.b : Int), .int .i64 (v.c : Int), .int .i64 (v.d : Int), .int .i64 (v.e : Int), .int .i64 (v.f : Int), .int .i64 (v.g : Int), .int .i64 (v.h : Int)]
theorem K_lt : ∀ t, Sha.K.getD t 0 < 4294967296 := by
  intro t
  by_cases h : t < 64
  · have : ∀ t : Fin 64, Sha.K.getD t.val 0 < 4294967296 := by decide
    exact this ⟨t, h⟩
  · rw [List.getD, List.getElem?_eq_none (by simp [Sha.K]; omega)]; decide
end Go.Proofs.YtabffcplbjaklaaGreatDoor
