/-
  The card of 'ModelSounds': what is plain.
-/
import Derived.Test.YtfdijpacbhomjaaGreatDoorCards
import Derived.Test.YtfdijpacbhomjaaGreatDoorTie
import Derived.Deep.DeepHandedRow
import Derived.Lib.LaidTab
import Derived.Lib.LaidU8
import Derived.Lay
import Derived.MakeChecks
import Derived.Shelf.Vars
namespace Go.Proofs.YtfdijpacbhomjaaGreatDoor.modelSounds
open Go.ChangeShapes Go.WideShapes Go.ChangeAt Go.RowKit
set_option maxRecDepth 100000

theorem plain (k : FuncId) (fn : Func) (hf : Tryz.pinned.checked.prog.funcNamed "sledge/sledgelaw33.ModelSounds" = some k) (hfn : Tryz.pinned.checked.prog.funcs[k]? = some fn) :
    false = Tryz.pinned.checked.prog.looks [] ∧ ∀ (j : Nat) t, fn.params[j]? = some t → Tryz.pinned.checked.prog.wantsStandIn t = false := by
  obtain rfl : k = 4 := Option.some.inj ((show Tryz.prog.funcNamed "sledge/sledgelaw33.ModelSounds" = some 4 by kernel_rfl).symm.trans hf) |>.symm
  obtain rfl : fn = Tryz.f4 := (Option.some.inj (Tryz.func4.symm.trans hfn)).symm
  refine ⟨by kernel_rfl, fun j t ht => ?_⟩
  rw [Tryz.params4] at ht
  have h := Array.mem_of_getElem? ht
  simp at h
  rcases h with rfl | rfl <;> exact (show Tryz.prog.wantsStandIn _ = false by kernel_rfl)

theorem d1 : Rows.modelSoundsRow.wfByText (OpenSpec.ofChange Rows.modelSoundsSpec) = true := by kernel_rfl
theorem d2 : Tryz.pinned.checked.prog.mainIs = some (true, ("cc6b0d75767e9fceffd03d6575a62f5f38a6cf66e512226fee242964021e1cf4" : String).toList) := by kernel_rfl
theorem d3 : false = Rows.modelSoundsRow.goesBy Tryz.pinned.checked.prog := by kernel_rfl
end Go.Proofs.YtfdijpacbhomjaaGreatDoor.modelSounds
