/-
  Proved here: the card of 'ScriptLimit': it answers true for every input, and changes nothing, where the library's variables hold what its text lays. No further condition.
-/
import Derived.Test.YthcleiegefhmdaaDoorPart10
set_option linter.unusedSimpArgs false
set_option linter.unusedVariables false
set_option linter.unusedSectionVars false
set_option linter.unnecessarySimpa false
set_option linter.defProp false
namespace Go.Proofs.YthcleiegefhmdaaDoor.scriptLimit
open Go.ChangeShapes Go.WideShapes Go.ChangeAt Go.RowKit Abs
set_option maxRecDepth 100000
theorem glob {W : World} (hL : laidMet Tryd.prog Rows.scriptLimitRow.laid W) (hS : W.ShapedOpen Tryd.prog) : GlobK W where
  size := by
    obtain ⟨cs, h, _⟩ := hS.1 7 _ _ (of_decide_eq_true (by kernel_rfl)) (show ((begin Tryd.prog (fun _ _ => 0) default).world.heap[7]?).bind Obj.row? = some (_, _) from rfl)
    have := (Array.getElem?_eq_some_iff.1 h).1
    exact this
  maxLen := cell_of_shapedOpen_int (zero := #[.int .i64 0]) (t := 3) hS (of_decide_eq_true (by kernel_rfl)) (by kernel_rfl) rfl (by kernel_rfl) (by kernel_rfl) Tryd.underlying3
  syn := err_of_reads (by kernel_rfl) (by kernel_rfl) Tryd.underlying64 (Lib.laidMet.reads hL (.tail _ (.tail _ (.tail _ (.tail _ (.tail _ (.head _)))))))
  rng := err_of_reads (by kernel_rfl) (by kernel_rfl) Tryd.underlying64 (Lib.laidMet.reads hL (.tail _ (.tail _ (.tail _ (.tail _ (.head _))))))
  pow := tab_of_reads (g := 1) (zs := Lib.pow10Tab) (k := .u64) (by kernel_rfl) (by kernel_rfl) Tryd.underlying116 Tryd.underlying104 (by kernel_rfl) (by kernel_rfl) (Lib.laidMet.reads hL (.tail _ (.tail _ (.head _))))
theorem isLaw : IsLaw Rows.scriptLimitSpec Tryd.f5.params.size := ⟨rfl, fun H ds h => by match ds, h with | [_], _ => rfl⟩
theorem lifted (os : Os) (started : os.Started) (H : Type) (enc : TypeId × Value → H) (F : Stop.Interp) :
    ReturnsInHanded {} Tryd.checked os 5 .any ((OpenSpec.ofChange Rows.scriptLimitSpec).preRow enc Tryd.prog Tryd.f5 Rows.scriptLimitRow.domain false Rows.scriptLimitRow.laid) (((OpenSpec.ofChange Rows.scriptLimitSpec).at F).post enc Tryd.prog Tryd.f5 false true false false) := by
  refine returns_of_walked_card (C := Tryd.checked) (s := Rows.scriptLimitSpec) own started (by kernel_rfl) Tryd.func5 laidOut isLaw rfl Tryd.underlying4 (by rw [Tryd.params5]; exact of_decide_eq_true (by kernel_rfl)) (by kernel_rfl) F
    (ChangeSpec.witness_shaped (enc := enc) (C := Tryd.checked) (os := os) (X := fun w _ => laidMetH Tryd.prog Rows.scriptLimitRow.laid w) false (World.laidAll Tryd.prog os Rows.scriptLimitRow.laid) #[.int .i64 0] 8 (World.laidAll_os _ _ _)
      (World.shaped_of_ZipB (by kernel_rfl) (by kernel_rfl)) (by kernel_rfl) (by kernel_rfl) (by kernel_rfl)
      (by rw [MakeChecks.laidMetH_plain _ _ _ (by kernel_rfl)]; exact laidMet_laidAll _ (by kernel_rfl) (by kernel_rfl))) ?_
  intro W base args ds ps hL hS hval hA hz
  refine calls_of_spec [3] (by rw [Tryd.params5]) (by intro t ht; simp at ht; subst ht; kernel_rfl) ?_ (glob hL hS) hval hA hz
  intro m vs _ hA
  obtain ⟨v0, r0, rfl, h0, hA⟩ := args_one hA
  obtain rfl := args_nil hA
  obtain ⟨a0, rfl, b0⟩ := arg_int Tryd.underlying3 h0
  exact lawlimit_spec a0 (isI64_wf b0) m
theorem said : Rows.ScriptLimitSaid :=
  OpenClaim.holds_of_cond 5 Tryd.f5 rfl rfl rfl rfl rfl rfl rfl ⟨rfl, rfl, rfl, rfl, rfl⟩ rfl rfl rfl rfl rfl (by kernel_rfl) Tryd.func5 (by kernel_rfl)
    (of_decide_eq_true (by kernel_rfl)) (by unfold Func.isWrapper; first | (rw [if_pos (by decide +kernel)]; kernel_rfl) | (rw [if_neg (by decide +kernel)]; exact ⟨rfl, rfl⟩))
    (fun os started H enc _ F => by rw [OpenClaim.pre_eq_preRow]; exact lifted os started H enc F)
theorem plain (k : FuncId) (fn : Func) (hf : Tryd.pinned.checked.prog.funcNamed "sledge/sledgelaw36.ScriptLimit" = some k) (hfn : Tryd.pinned.checked.prog.funcs[k]? = some fn) :
    true = Tryd.pinned.checked.prog.looks [] ∧ ∀ (j : Nat) t, fn.params[j]? = some t → Tryd.pinned.checked.prog.wantsStandIn t = false := by
  obtain rfl : k = 5 := Option.some.inj ((show Tryd.prog.funcNamed "sledge/sledgelaw36.ScriptLimit" = some 5 by kernel_rfl).symm.trans hf) |>.symm
  obtain rfl : fn = Tryd.f5 := (Option.some.inj (Tryd.func5.symm.trans hfn)).symm
  refine ⟨by kernel_rfl, fun j t ht => ?_⟩
  rw [Tryd.params5] at ht
  have h := Array.mem_of_getElem? ht
  simp at h
  subst h
  exact (show Tryd.prog.wantsStandIn _ = false by kernel_rfl)
theorem proved : Rows.ScriptLimitCardSaid :=
  Claim7.holds_tied_plain_at .later [] _ _ _ _ said (fun _ h => by cases h) (by kernel_rfl) (fun _ h => by cases h) scriptLimit_row_tie rfl ⟨rfl, rfl⟩ (by kernel_rfl) rfl plain (by kernel_rfl)
#print axioms proved
end Go.Proofs.YthcleiegefhmdaaDoor.scriptLimit
