/-
  Proved here: the card of 'DepotSmall': it answers true for every input, and changes nothing, where the library's variables hold what its text lays. No further condition.
-/
import Derived.Test.YteccmcpaheepcaaGreatDoorPart08
import Derived.Test.YteccmcpaheepcaaGreatDoorPart20
set_option linter.unusedSimpArgs false
set_option linter.unusedVariables false
set_option linter.unusedSectionVars false
set_option linter.unnecessarySimpa false
set_option linter.defProp false
namespace Go.Proofs.YteccmcpaheepcaaGreatDoor.depotSmall
open Go.ChangeShapes Go.WideShapes Go.ChangeAt Go.RowKit Abs
set_option maxRecDepth 100000
theorem glob {W : World} (_ : laidMet Tryz.prog Rows.depotSmallRow.laid W) (_ : W.ShapedOpen Tryz.prog) : GlobK W := trivial
theorem isLaw : IsLaw Rows.depotSmallSpec Tryz.f5.params.size := ⟨rfl, fun H ds h => by match ds, h with | [_, _, _, _], _ => rfl⟩
theorem lifted (os : Os) (started : os.Started) (H : Type) (enc : TypeId × Value → H) (F : Stop.Interp) :
    ReturnsInHanded {} Tryz.checked os 5 .any ((OpenSpec.ofChange Rows.depotSmallSpec).preRow enc Tryz.prog Tryz.f5 Rows.depotSmallRow.domain false Rows.depotSmallRow.laid) (((OpenSpec.ofChange Rows.depotSmallSpec).at F).post enc Tryz.prog Tryz.f5 false true false false) := by
  refine Uy (C := Tryz.checked) (s := Rows.depotSmallSpec) own started (by kernel_rfl) Tryz.func5 laidOut isLaw rfl Tryz.underlying4 (by rw [Tryz.params5]; exact of_decide_eq_true (by kernel_rfl)) (by kernel_rfl) F
    (ChangeSpec.witness_shaped (enc := enc) (C := Tryz.checked) (os := os) (X := fun w _ => laidMetH Tryz.prog Rows.depotSmallRow.laid w) false (World.laidAll Tryz.prog os Rows.depotSmallRow.laid) #[.int .i64 0, .int .i64 0, .int .i64 0, .string .empty] 8 (World.laidAll_os _ _ _)
      (World.shaped_of_ZipB (by kernel_rfl) (by kernel_rfl)) (by kernel_rfl) (by kernel_rfl) (by kernel_rfl)
      (by rw [MakeChecks.laidMetH_plain _ _ _ (by kernel_rfl)]; exact laidMet_laidAll _ (by kernel_rfl) (by kernel_rfl))) ?_
  intro W base args ds ps hL hS hval hA hz
  refine calls_of_spec [3, 3, 3, 9] (by rw [Tryz.params5]) (by intro t ht; simp at ht; rcases ht with rfl | rfl <;> kernel_rfl) ?_ (glob hL hS) hval hA hz
  intro m vs _ hA
  obtain ⟨v0, r0, rfl, h0, hA⟩ := args_one hA
  obtain ⟨v1, r1, rfl, h1, hA⟩ := args_one hA
  obtain ⟨v2, r2, rfl, h2, hA⟩ := args_one hA
  obtain ⟨v3, r3, rfl, h3, hA⟩ := args_one hA
  obtain rfl := args_nil hA
  obtain ⟨a0, rfl, b0⟩ := arg_int Tryz.underlying3 h0
  obtain ⟨a1, rfl, b1⟩ := arg_int Tryz.underlying3 h1
  obtain ⟨a2, rfl, b2⟩ := arg_int Tryz.underlying3 h2
  obtain ⟨a3, rfl, b3⟩ := arg_str Tryz.underlying9 h3
  exact depot_small a0 a1 a2 a3 (by have h3 : a3.size ≤ reachBytes := b3; unfold reachBytes at h3; omega) m
theorem c1 : (Rows.depotSmallRow.inPlace == Tryz.pinned.checked.prog.inPlace 5) = true := by kernel_rfl
theorem c2 : (Rows.depotSmallRow.unfollowed == Tryz.pinned.checked.prog.unfollowed 5) = true := by kernel_rfl
theorem c3 : (Rows.depotSmallRow.recurses == Tryz.pinned.checked.prog.recurses 5) = true := by kernel_rfl
theorem c4 : (Rows.depotSmallRow.named == Tryz.pinned.checked.prog.varsNamed 5) = true := by kernel_rfl
theorem closed : joinedFacts Tryz.pinned.checked.prog 5 Tryz.f5 (OpenSpec.ofChange Rows.depotSmallSpec).bare Rows.depotSmallRow = true := by
  unfold joinedFacts
  rw [c1, c2, c3, c4]
  kernel_rfl
theorem said : Rows.DepotSmallSaid :=
  OpenClaim.holds_of_cond 5 Tryz.f5 rfl rfl rfl rfl rfl rfl rfl ⟨rfl, rfl, rfl, rfl, rfl⟩ rfl rfl rfl rfl rfl (by kernel_rfl) Tryz.func5 closed
    (of_decide_eq_true (by kernel_rfl)) (by unfold Func.isWrapper; first | (rw [if_pos (by decide +kernel)]; kernel_rfl) | (rw [if_neg (by decide +kernel)]; exact ⟨rfl, rfl⟩))
    (fun os started H enc _ F => by rw [OpenClaim.pre_eq_preRow]; exact lifted os started H enc F)
theorem plain (k : FuncId) (fn : Func) (hf : Tryz.pinned.checked.prog.funcNamed "sledge/sledgelaw25.DepotSmall" = some k) (hfn : Tryz.pinned.checked.prog.funcs[k]? = some fn) :
    true = Tryz.pinned.checked.prog.looks [] ∧ ∀ (j : Nat) t, fn.params[j]? = some t → Tryz.pinned.checked.prog.wantsStandIn t = false := by
  obtain rfl : k = 5 := Option.some.inj ((show Tryz.prog.funcNamed "sledge/sledgelaw25.DepotSmall" = some 5 by kernel_rfl).symm.trans hf) |>.symm
  obtain rfl : fn = Tryz.f5 := (Option.some.inj (Tryz.func5.symm.trans hfn)).symm
  refine ⟨by kernel_rfl, fun j t ht => ?_⟩
  rw [Tryz.params5] at ht
  have h := Array.mem_of_getElem? ht
  simp at h
  rcases h with rfl | rfl <;> exact (show Tryz.prog.wantsStandIn _ = false by kernel_rfl)
theorem d1 : Rows.depotSmallRow.wfByText (OpenSpec.ofChange Rows.depotSmallSpec) = true := by kernel_rfl
theorem d2 : Tryz.pinned.checked.prog.mainIs = some (true, ("cf442c823c0ac0d193a5969a2c4422e4515af9384b9260397acf8ab0e1502f40" : String).toList) := by kernel_rfl
theorem d3 : false = Rows.depotSmallRow.goesBy Tryz.pinned.checked.prog := by kernel_rfl
theorem proved : Rows.DepotSmallCardSaid :=
  Claim7.holds_tied_plain_at .later [] _ _ _ _ said (fun _ h => by cases h) d1 (fun _ h => by cases h) depotSmall_row_tie rfl ⟨rfl, rfl⟩ d2 rfl plain d3
#print axioms proved
end Go.Proofs.YteccmcpaheepcaaGreatDoor.depotSmall
