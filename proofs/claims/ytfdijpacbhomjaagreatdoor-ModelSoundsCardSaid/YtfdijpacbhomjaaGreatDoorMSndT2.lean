/-
  The card of 'ModelSounds': the law, lifted.
-/
import Derived.Test.YtfdijpacbhomjaaGreatDoorMsnd08
import Derived.Test.YtfdijpacbhomjaaGreatDoorMsnd17
set_option linter.all false
namespace Go.Proofs.YtfdijpacbhomjaaGreatDoor.modelSounds
open Go.ChangeShapes Go.WideShapes Go.ChangeAt Go.RowKit Abs
set_option maxRecDepth 100000
theorem glob {W : World} (hL : laidMet Tryz.prog Rows.modelSoundsRow.laid W) (hS : W.ShapedOpen Tryz.prog) : GlobK W where
  size := by
    obtain ⟨cs, h, _⟩ := hS.1 2 _ _ (of_decide_eq_true (by kernel_rfl)) (show ((begin Tryz.prog (fun _ _ => 0) default).world.heap[2]?).bind Obj.row? = some (_, _) from rfl)
    have := (Array.getElem?_eq_some_iff.1 h).1
    exact this
  maxLen := cell_of_shapedOpen_int (zero := #[.int .i64 0]) (t := 3) hS (of_decide_eq_true (by kernel_rfl)) (by kernel_rfl) rfl (by kernel_rfl) (by kernel_rfl) Tryz.underlying3
theorem isLaw : IsLaw Rows.modelSoundsSpec Tryz.f4.params.size := ⟨rfl, fun H ds h => by match ds, h with | [_, _, _], _ => rfl⟩
theorem lifted (os : Os) (started : os.Started) (H : Type) (enc : TypeId × Value → H) (F : Stop.Interp) :
    ReturnsInHanded {} Tryz.checked os 4 .any ((OpenSpec.ofChange Rows.modelSoundsSpec).preRow enc Tryz.prog Tryz.f4 Rows.modelSoundsRow.domain false Rows.modelSoundsRow.laid) (((OpenSpec.ofChange Rows.modelSoundsSpec).at F).post enc Tryz.prog Tryz.f4 false true false false) := by
  refine returns_of_walked_card (C := Tryz.checked) (s := Rows.modelSoundsSpec) own started (by kernel_rfl) Tryz.func4 laidOut isLaw rfl Tryz.underlying4 (by rw [Tryz.params4]; exact of_decide_eq_true (by kernel_rfl)) (by kernel_rfl) F
    (ChangeSpec.witness_shaped (enc := enc) (C := Tryz.checked) (os := os) (X := fun w _ => laidMetH Tryz.prog Rows.modelSoundsRow.laid w) false (World.laidAll Tryz.prog os Rows.modelSoundsRow.laid) #[.slice none 0 0, .slice none 0 0, .slice none 0 0] 8 (World.laidAll_os _ _ _)
      (World.shaped_of_ZipB (by kernel_rfl) (by kernel_rfl)) (by kernel_rfl) (by kernel_rfl) (by kernel_rfl)
      (by rw [MakeChecks.laidMetH_plain _ _ _ (by kernel_rfl)]; exact laidMet_laidAll _ (by kernel_rfl) (by kernel_rfl))) ?_
  intro W base args ds ps hL hS hval hA hz
  refine calls_of_spec [47, 47, 54] (by rw [Tryz.params4]) (by intro t ht; simp at ht; rcases ht with rfl | rfl <;> kernel_rfl) ?_ (glob hL hS) hval hA hz
  intro m vs _ hA
  obtain ⟨v0, r0, rfl, h0, hA⟩ := args_one hA
  obtain ⟨v1, r1, rfl, h1, hA⟩ := args_one hA
  obtain ⟨v2, r2, rfl, h2, hA⟩ := args_one hA
  obtain rfl := args_nil hA
  obtain ⟨x0, d0, e0⟩ := arg_archs h0
  obtain ⟨x1, d1, e1⟩ := arg_archs h1
  obtain ⟨x2, d2⟩ := arg_parts h2
  exact model_sounds m _ _ _ x0 x1 x2 d0 e0 d1 e1 d2
end Go.Proofs.YtfdijpacbhomjaaGreatDoor.modelSounds
