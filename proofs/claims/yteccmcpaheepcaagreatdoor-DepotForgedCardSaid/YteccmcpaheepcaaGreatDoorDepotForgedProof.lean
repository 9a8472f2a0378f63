/-
  Proved here: the card of 'DepotForged': it answers true for every input, and changes nothing, where the library's variables hold what its text lays. No further condition.
-/
import Derived.Test.YteccmcpaheepcaaGreatDoorForg08
import Derived.Test.YteccmcpaheepcaaGreatDoorForg21
set_option linter.unusedSimpArgs false
set_option linter.unusedVariables false
set_option linter.unusedSectionVars false
set_option linter.unnecessarySimpa false
set_option linter.defProp false
namespace Go.Proofs.YteccmcpaheepcaaGreatDoor.depotForged
open Go.ChangeShapes Go.WideShapes Go.ChangeAt Go.RowKit Abs
set_option maxRecDepth 100000
theorem glob {W : World} (_ : laidMet Tryz.prog Rows.depotForgedRow.laid W) (_ : W.ShapedOpen Tryz.prog) : GlobK W := trivial
theorem isLaw : IsLaw Rows.depotForgedSpec Tryz.f4.params.size := ⟨rfl, fun H ds h => by match ds, h with | [_, _, _], _ => rfl⟩
theorem lifted (os : Os) (started : os.Started) (H : Type) (enc : TypeId × Value → H) (F : Stop.Interp) :
    ReturnsInHanded {} Tryz.checked os 4 .any ((OpenSpec.ofChange Rows.depotForgedSpec).preRow enc Tryz.prog Tryz.f4 Rows.depotForgedRow.domain false Rows.depotForgedRow.laid) (((OpenSpec.ofChange Rows.depotForgedSpec).at F).post enc Tryz.prog Tryz.f4 false true false false) := by
  refine UN (C := Tryz.checked) (s := Rows.depotForgedSpec) own started (by kernel_rfl) Tryz.func4 laidOut isLaw rfl Tryz.underlying4 (by rw [Tryz.params4]; exact of_decide_eq_true (by kernel_rfl)) (by kernel_rfl) F
    (ChangeSpec.witness_shaped (enc := enc) (C := Tryz.checked) (os := os) (X := fun w _ => laidMetH Tryz.prog Rows.depotForgedRow.laid w) false (World.laidAll Tryz.prog os Rows.depotForgedRow.laid) #[.string .empty, .slice none 0 0, .agg #[.int .i64 0, .string .empty, .int .i64 0, .int .i64 0, .int .i64 0, .string .empty, .string .empty]] 8 (World.laidAll_os _ _ _)
      (World.shaped_of_ZipB (by kernel_rfl) (by kernel_rfl)) (by kernel_rfl) (by kernel_rfl) (by kernel_rfl)
      (by rw [MakeChecks.laidMetH_plain _ _ _ (by kernel_rfl)]; exact laidMet_laidAll _ (by kernel_rfl) (by kernel_rfl))) ?_
  intro W base args ds ps hL hS hval hA hz
  refine calls_of_spec [9, 31, 33] (by rw [Tryz.params4]) (by intro t ht; simp at ht; rcases ht with rfl | rfl | rfl <;> kernel_rfl) ?_ (glob hL hS) hval hA hz
  intro m vs _ hA
  obtain ⟨v0, r0, rfl, h0, hA⟩ := args_one hA
  obtain ⟨v1, r1, rfl, h1, hA⟩ := args_one hA
  obtain ⟨v2, r2, rfl, h2, hA⟩ := args_one hA
  obtain rfl := args_nil hA
  obtain ⟨a0, rfl, b0⟩ := arg_str Tryz.underlying9 h0
  obtain ⟨T1, d1, e1, l1⟩ := arg_strs h1
  obtain ⟨a2, rfl⟩ := arg_header h2
  exact by
    have h0 : a0.size ≤ reachBytes := b0
    have h1 : T1.length ≤ reachBytes := e1
    have h2 : ∀ t ∈ T1, t.length ≤ reachBytes := l1
    unfold reachBytes at h0 h1 h2
    have e : a0 = str a0.data.toList := ba_ext rfl
    rw [e]
    exact depot_forged a0.data.toList (by rw [← str_size, ← e]; omega) T1 (by omega) (fun t ht => by have := h2 t ht; omega) a2 m _ d1
theorem c1 : (Rows.depotForgedRow.inPlace == Tryz.pinned.checked.prog.inPlace 4) = true := by kernel_rfl
theorem c2 : (Rows.depotForgedRow.unfollowed == Tryz.pinned.checked.prog.unfollowed 4) = true := by kernel_rfl
theorem c3 : (Rows.depotForgedRow.recurses == Tryz.pinned.checked.prog.recurses 4) = true := by kernel_rfl
theorem c4 : (Rows.depotForgedRow.named == Tryz.pinned.checked.prog.varsNamed 4) = true := by kernel_rfl
theorem closed : joinedFacts Tryz.pinned.checked.prog 4 Tryz.f4 (OpenSpec.ofChange Rows.depotForgedSpec).bare Rows.depotForgedRow = true := by
  unfold joinedFacts
  rw [c1, c2, c3, c4]
  kernel_rfl
theorem said : Rows.DepotForgedSaid :=
  OpenClaim.holds_of_cond 4 Tryz.f4 rfl rfl rfl rfl rfl rfl rfl ⟨rfl, rfl, rfl, rfl, rfl⟩ rfl rfl rfl rfl rfl (by kernel_rfl) Tryz.func4 closed
    (of_decide_eq_true (by kernel_rfl)) (by unfold Func.isWrapper; first | (rw [if_pos (by decide +kernel)]; kernel_rfl) | (rw [if_neg (by decide +kernel)]; exact ⟨rfl, rfl⟩))
    (fun os started H enc _ F => by rw [OpenClaim.pre_eq_preRow]; exact lifted os started H enc F)
theorem plain (k : FuncId) (fn : Func) (hf : Tryz.pinned.checked.prog.funcNamed "sledge/sledgelaw25.DepotForged" = some k) (hfn : Tryz.pinned.checked.prog.funcs[k]? = some fn) :
    true = Tryz.pinned.checked.prog.looks [] ∧ ∀ (j : Nat) t, fn.params[j]? = some t → Tryz.pinned.checked.prog.wantsStandIn t = false := by
  obtain rfl : k = 4 := Option.some.inj ((show Tryz.prog.funcNamed "sledge/sledgelaw25.DepotForged" = some 4 by kernel_rfl).symm.trans hf) |>.symm
  obtain rfl : fn = Tryz.f4 := (Option.some.inj (Tryz.func4.symm.trans hfn)).symm
  refine ⟨by kernel_rfl, fun j t ht => ?_⟩
  rw [Tryz.params4] at ht
  have h := Array.mem_of_getElem? ht
  simp at h
  rcases h with rfl | rfl | rfl <;> exact (show Tryz.prog.wantsStandIn _ = false by kernel_rfl)
theorem d1 : Rows.depotForgedRow.wfByText (OpenSpec.ofChange Rows.depotForgedSpec) = true := by kernel_rfl
theorem d2 : Tryz.pinned.checked.prog.mainIs = some (true, ("cf442c823c0ac0d193a5969a2c4422e4515af9384b9260397acf8ab0e1502f40" : String).toList) := by kernel_rfl
theorem d3 : false = Rows.depotForgedRow.goesBy Tryz.pinned.checked.prog := by kernel_rfl
theorem proved : Rows.DepotForgedCardSaid :=
  Claim7.holds_tied_plain_at .later [] _ _ _ _ said (fun _ h => by cases h) d1 (fun _ h => by cases h) depotForged_row_tie rfl ⟨rfl, rfl⟩ d2 rfl plain d3
#print axioms proved
end Go.Proofs.YteccmcpaheepcaaGreatDoor.depotForged
