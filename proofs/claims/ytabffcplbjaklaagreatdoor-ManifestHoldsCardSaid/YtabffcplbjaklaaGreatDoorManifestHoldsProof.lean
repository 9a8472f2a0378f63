/-
  Proved here: the card of 'ManifestHolds': it answers true for every input, and changes nothing, where the library's variables hold what its text lays. No further condition.
-/
import Derived.Test.YtabffcplbjaklaaGreatDoorPart07
import Derived.Test.YtabffcplbjaklaaGreatDoorPart17
import Derived.Test.YtabffcplbjaklaaGreatDoorPart16
set_option linter.unusedSimpArgs false
set_option linter.unusedVariables false
set_option linter.unusedSectionVars false
set_option linter.unnecessarySimpa false
set_option linter.defProp false
namespace Go.Proofs.YtabffcplbjaklaaGreatDoor.manifestHolds
open Go.ChangeShapes Go.WideShapes Go.ChangeAt Go.RowKit Abs
set_option maxRecDepth 100000
theorem glob {W : World} (hL : laidMet Tryz.prog Rows.manifestHoldsRow.laid W) (hS : W.ShapedOpen Tryz.prog) : GlobK W where
  size := by
    obtain ⟨cs, h, _⟩ := hS.1 8 _ _ (of_decide_eq_true (by kernel_rfl)) (show ((begin Tryz.prog (fun _ _ => 0) default).world.heap[8]?).bind Obj.row? = some (_, _) from rfl)
    have := (Array.getElem?_eq_some_iff.1 h).1
    exact this
  maxLen := cell_of_shapedOpen_int (zero := #[.int .i64 0]) (t := 3) hS (of_decide_eq_true (by kernel_rfl)) (by kernel_rfl) rfl (by kernel_rfl) (by kernel_rfl) Tryz.underlying3
  syn := err_of_reads (by kernel_rfl) (by kernel_rfl) Tryz.underlying48 (Lib.laidMet.reads hL (.tail _ (.tail _ (.tail _ (.tail _ (.tail _ (.head _)))))))
  rng := err_of_reads (by kernel_rfl) (by kernel_rfl) Tryz.underlying48 (Lib.laidMet.reads hL (.tail _ (.tail _ (.tail _ (.tail _ (.head _))))))
  pow := tab_of_reads (g := 4) (zs := Lib.pow10Tab) (k := .u64) (by kernel_rfl) (by kernel_rfl) Tryz.underlying172 Tryz.underlying85 (by kernel_rfl) (by kernel_rfl) (Lib.laidMet.reads hL (.tail _ (.tail _ (.head _))))
theorem isLaw : IsLaw Rows.manifestHoldsSpec Tryz.f5.params.size := ⟨rfl, fun H ds h => by match ds, h with | [_, _], _ => rfl⟩
theorem lifted (os : Os) (started : os.Started) (H : Type) (enc : TypeId × Value → H) (F : Stop.Interp) :
    ReturnsInHanded {} Tryz.checked os 5 .any ((OpenSpec.ofChange Rows.manifestHoldsSpec).preRow enc Tryz.prog Tryz.f5 Rows.manifestHoldsRow.domain false Rows.manifestHoldsRow.laid) (((OpenSpec.ofChange Rows.manifestHoldsSpec).at F).post enc Tryz.prog Tryz.f5 false true false false) := by
  refine returns_of_walked_card (C := Tryz.checked) (s := Rows.manifestHoldsSpec) own started (by kernel_rfl) Tryz.func5 laidOut isLaw rfl Tryz.underlying4 (by rw [Tryz.params5]; exact of_decide_eq_true (by kernel_rfl)) (by kernel_rfl) F
    (ChangeSpec.witness_shaped (enc := enc) (C := Tryz.checked) (os := os) (X := fun w _ => laidMetH Tryz.prog Rows.manifestHoldsRow.laid w) false (World.laidAll Tryz.prog os Rows.manifestHoldsRow.laid) #[.slice none 0 0, .slice none 0 0] 8 (World.laidAll_os _ _ _)
      (World.shaped_of_ZipB (by kernel_rfl) (by kernel_rfl)) (by kernel_rfl) (by kernel_rfl) (by kernel_rfl)
      (by rw [MakeChecks.laidMetH_plain _ _ _ (by kernel_rfl)]; exact laidMet_laidAll _ (by kernel_rfl) (by kernel_rfl))) ?_
  intro W base args ds ps hL hS hval hA hz
  refine calls_of_spec [22, 22] (by rw [Tryz.params5]) (by intro t ht; simp at ht; subst ht; kernel_rfl) ?_ (glob hL hS) hval hA hz
  intro m vs _ hA
  obtain ⟨v0, r0, rfl, h0, hA⟩ := args_one hA
  obtain ⟨v1, r1, rfl, h1, hA⟩ := args_one hA
  obtain rfl := args_nil hA
  obtain ⟨x0, d0, e0, l0⟩ := arg_hdrs h0
  obtain ⟨x1, d1, e1, l1⟩ := arg_hdrs h1
  exact man_holds m _ _ x0 x1 d0 d1
theorem said : Rows.ManifestHoldsSaid :=
  OpenClaim.holds_of_cond 5 Tryz.f5 rfl rfl rfl rfl rfl rfl rfl ⟨rfl, rfl, rfl, rfl, rfl⟩ rfl rfl rfl rfl rfl (by kernel_rfl) Tryz.func5 (by kernel_rfl)
    (of_decide_eq_true (by kernel_rfl)) (by unfold Func.isWrapper; first | (rw [if_pos (by decide +kernel)]; kernel_rfl) | (rw [if_neg (by decide +kernel)]; exact ⟨rfl, rfl⟩))
    (fun os started H enc _ F => by rw [OpenClaim.pre_eq_preRow]; exact lifted os started H enc F)
theorem plain (k : FuncId) (fn : Func) (hf : Tryz.pinned.checked.prog.funcNamed "sledge/sledgelaw46.ManifestHolds" = some k) (hfn : Tryz.pinned.checked.prog.funcs[k]? = some fn) :
    true = Tryz.pinned.checked.prog.looks [] ∧ ∀ (j : Nat) t, fn.params[j]? = some t → Tryz.pinned.checked.prog.wantsStandIn t = false := by
  obtain rfl : k = 5 := Option.some.inj ((show Tryz.prog.funcNamed "sledge/sledgelaw46.ManifestHolds" = some 5 by kernel_rfl).symm.trans hf) |>.symm
  obtain rfl : fn = Tryz.f5 := (Option.some.inj (Tryz.func5.symm.trans hfn)).symm
  refine ⟨by kernel_rfl, fun j t ht => ?_⟩
  rw [Tryz.params5] at ht
  have h := Array.mem_of_getElem? ht
  simp at h
  subst h
  exact (show Tryz.prog.wantsStandIn _ = false by kernel_rfl)
theorem proved : Rows.ManifestHoldsCardSaid :=
  Claim7.holds_tied_plain_at .later [] _ _ _ _ said (fun _ h => by cases h) (by kernel_rfl) (fun _ h => by cases h) manifestHolds_row_tie rfl ⟨rfl, rfl⟩ (by kernel_rfl) rfl plain (by kernel_rfl)
#print axioms proved
end Go.Proofs.YtabffcplbjaklaaGreatDoor.manifestHolds
