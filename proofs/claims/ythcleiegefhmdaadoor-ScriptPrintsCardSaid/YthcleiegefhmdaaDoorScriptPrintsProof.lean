/-
  Proved here: the card of 'ScriptPrints': it answers true for every input, and changes nothing, where the library's variables hold what its text lays. No further condition.
-/
import Derived.Test.YthcleiegefhmdaaDoorPart10
set_option linter.unusedSimpArgs false
set_option linter.unusedVariables false
set_option linter.unusedSectionVars false
set_option linter.unnecessarySimpa false
set_option linter.defProp false
namespace Go.Proofs.YthcleiegefhmdaaDoor.scriptPrints
open Go.ChangeShapes Go.WideShapes Go.ChangeAt Go.RowKit Abs
set_option maxRecDepth 100000
theorem glob {W : World} (hL : laidMet Tryd.prog Rows.scriptPrintsRow.laid W) (hS : W.ShapedOpen Tryd.prog) : GlobK W where
  size := by
    obtain ⟨cs, h, _⟩ := hS.1 7 _ _ (of_decide_eq_true (by kernel_rfl)) (show ((begin Tryd.prog (fun _ _ => 0) default).world.heap[7]?).bind Obj.row? = some (_, _) from rfl)
    have := (Array.getElem?_eq_some_iff.1 h).1
    exact this
  maxLen := cell_of_shapedOpen_int (zero := #[.int .i64 0]) (t := 3) hS (of_decide_eq_true (by kernel_rfl)) (by kernel_rfl) rfl (by kernel_rfl) (by kernel_rfl) Tryd.underlying3
  syn := err_of_reads (by kernel_rfl) (by kernel_rfl) Tryd.underlying64 (Lib.laidMet.reads hL (.tail _ (.tail _ (.tail _ (.tail _ (.tail _ (.head _)))))))
  rng := err_of_reads (by kernel_rfl) (by kernel_rfl) Tryd.underlying64 (Lib.laidMet.reads hL (.tail _ (.tail _ (.tail _ (.tail _ (.head _))))))
  pow := tab_of_reads (g := 1) (zs := Lib.pow10Tab) (k := .u64) (by kernel_rfl) (by kernel_rfl) Tryd.underlying116 Tryd.underlying104 (by kernel_rfl) (by kernel_rfl) (Lib.laidMet.reads hL (.tail _ (.tail _ (.head _))))
theorem isLaw : IsLaw Rows.scriptPrintsSpec Tryd.f6.params.size := ⟨rfl, fun H ds h => by match ds, h with | [_, _, _, _, _, _], _ => rfl⟩
theorem lifted (os : Os) (started : os.Started) (H : Type) (enc : TypeId × Value → H) (F : Stop.Interp) :
    ReturnsInHanded {} Tryd.checked os 6 .any ((OpenSpec.ofChange Rows.scriptPrintsSpec).preRow enc Tryd.prog Tryd.f6 Rows.scriptPrintsRow.domain false Rows.scriptPrintsRow.laid) (((OpenSpec.ofChange Rows.scriptPrintsSpec).at F).post enc Tryd.prog Tryd.f6 false true false false) := by
  refine returns_of_walked_card (C := Tryd.checked) (s := Rows.scriptPrintsSpec) own started (by kernel_rfl) Tryd.func6 laidOut isLaw rfl Tryd.underlying4 (by rw [Tryd.params6]; exact of_decide_eq_true (by kernel_rfl)) (by kernel_rfl) F
    (ChangeSpec.witness_shaped (enc := enc) (C := Tryd.checked) (os := os) (X := fun w _ => laidMetH Tryd.prog Rows.scriptPrintsRow.laid w) false (World.laidAll Tryd.prog os Rows.scriptPrintsRow.laid) #[.int .i64 0, .int .i64 0, .int .i64 0, .int .i64 0, .slice none 0 0, .string .empty] 8 (World.laidAll_os _ _ _)
      (World.shaped_of_ZipB (by kernel_rfl) (by kernel_rfl)) (by kernel_rfl) (by kernel_rfl) (by kernel_rfl)
      (by rw [MakeChecks.laidMetH_plain _ _ _ (by kernel_rfl)]; exact laidMet_laidAll _ (by kernel_rfl) (by kernel_rfl))) ?_
  intro W base args ds ps hL hS hval hA hz
  refine calls_of_spec [3, 3, 3, 3, 27, 9] (by rw [Tryd.params6]) (by intro t ht; simp at ht; rcases ht with rfl | rfl | rfl <;> kernel_rfl) ?_ (glob hL hS) hval hA hz
  intro m vs hown hA
  obtain ⟨v0, r0, rfl, h0, hA⟩ := args_one hA
  obtain ⟨v1, r1, rfl, h1, hA⟩ := args_one hA
  obtain ⟨v2, r2, rfl, h2, hA⟩ := args_one hA
  obtain ⟨v3, r3, rfl, h3, hA⟩ := args_one hA
  obtain ⟨v4, r4, rfl, h4, hA⟩ := args_one hA
  obtain ⟨v5, r5, rfl, h5, hA⟩ := args_one hA
  obtain rfl := args_nil hA
  obtain ⟨a0, rfl, b0⟩ := arg_int Tryd.underlying3 h0
  obtain ⟨a1, rfl, b1⟩ := arg_int Tryd.underlying3 h1
  obtain ⟨a2, rfl, b2⟩ := arg_int Tryd.underlying3 h2
  obtain ⟨a3, rfl, b3⟩ := arg_int Tryd.underlying3 h3
  have b4 := arg_list Tryd.underlying27 h4
  obtain ⟨a5, rfl, b5⟩ := arg_str Tryd.underlying9 h5
  obtain ⟨v, LA, e, hr, _, hw⟩ := ARep.list stepC (fun q => StepIn q.1 ∧ FilesAt m q.2 q.1.files) (n := 7) Tryd.underlying27 (by kernel_rfl) (fun cs h => rep_step hown h) b4
  obtain ⟨a, c, rfl⟩ := hr.len
  simp only [List.cons.injEq, and_true] at e
  subst e
  exact lawprints_spec a0 a1 a2 a3 (isI64_wf b0) (isI64_wf b1) (isI64_wf b2) (isI64_wf b3) LA a c a5 m hr hw
theorem said : Rows.ScriptPrintsSaid :=
  OpenClaim.holds_of_cond 6 Tryd.f6 rfl rfl rfl rfl rfl rfl rfl ⟨rfl, rfl, rfl, rfl, rfl⟩ rfl rfl rfl rfl rfl (by kernel_rfl) Tryd.func6 (by kernel_rfl)
    (of_decide_eq_true (by kernel_rfl)) (by unfold Func.isWrapper; first | (rw [if_pos (by decide +kernel)]; kernel_rfl) | (rw [if_neg (by decide +kernel)]; exact ⟨rfl, rfl⟩))
    (fun os started H enc _ F => by rw [OpenClaim.pre_eq_preRow]; exact lifted os started H enc F)
theorem plain (k : FuncId) (fn : Func) (hf : Tryd.pinned.checked.prog.funcNamed "sledge/sledgelaw36.ScriptPrints" = some k) (hfn : Tryd.pinned.checked.prog.funcs[k]? = some fn) :
    true = Tryd.pinned.checked.prog.looks [] ∧ ∀ (j : Nat) t, fn.params[j]? = some t → Tryd.pinned.checked.prog.wantsStandIn t = false := by
  obtain rfl : k = 6 := Option.some.inj ((show Tryd.prog.funcNamed "sledge/sledgelaw36.ScriptPrints" = some 6 by kernel_rfl).symm.trans hf) |>.symm
  obtain rfl : fn = Tryd.f6 := (Option.some.inj (Tryd.func6.symm.trans hfn)).symm
  refine ⟨by kernel_rfl, fun j t ht => ?_⟩
  rw [Tryd.params6] at ht
  have h := Array.mem_of_getElem? ht
  simp at h
  rcases h with rfl | rfl | rfl <;> exact (show Tryd.prog.wantsStandIn _ = false by kernel_rfl)
theorem proved : Rows.ScriptPrintsCardSaid :=
  Claim7.holds_tied_plain_at .later [] _ _ _ _ said (fun _ h => by cases h) (by kernel_rfl) (fun _ h => by cases h) scriptPrints_row_tie rfl ⟨rfl, rfl⟩ (by kernel_rfl) rfl plain (by kernel_rfl)
#print axioms proved
end Go.Proofs.YthcleiegefhmdaaDoor.scriptPrints
