/-
  Proved here: the card of 'ManifestPuts': it answers true for every input, and changes nothing, where the library's variables hold what its text lays. No further condition.
-/
import Derived.Test.YtabffcplbjaklaaGreatDoorPart07
import Derived.Test.YtabffcplbjaklaaGreatDoorPart16
set_option linter.unusedSimpArgs false
set_option linter.unusedVariables false
set_option linter.unusedSectionVars false
set_option linter.unnecessarySimpa false
set_option linter.defProp false
namespace Go.Proofs.YtabffcplbjaklaaGreatDoor.manifestPuts
open Go.ChangeShapes Go.WideShapes Go.ChangeAt Go.RowKit Abs
set_option maxRecDepth 100000
theorem glob {W : World} (hL : laidMet Tryz.prog Rows.manifestPutsRow.laid W) (hS : W.ShapedOpen Tryz.prog) : GlobK W where
  size := by
    obtain ⟨cs, h, _⟩ := hS.1 8 _ _ (of_decide_eq_true (by kernel_rfl)) (show ((begin Tryz.prog (fun _ _ => 0) default).world.heap[8]?).bind Obj.row? = some (_, _) from rfl)
    have := (Array.getElem?_eq_some_iff.1 h).1
    exact this
  maxLen := cell_of_shapedOpen_int (zero := #[.int .i64 0]) (t := 3) hS (of_decide_eq_true (by kernel_rfl)) (by kernel_rfl) rfl (by kernel_rfl) (by kernel_rfl) Tryz.underlying3
  syn := err_of_reads (by kernel_rfl) (by kernel_rfl) Tryz.underlying48 (Lib.laidMet.reads hL (.tail _ (.tail _ (.tail _ (.tail _ (.tail _ (.head _)))))))
  rng := err_of_reads (by kernel_rfl) (by kernel_rfl) Tryz.underlying48 (Lib.laidMet.reads hL (.tail _ (.tail _ (.tail _ (.tail _ (.head _))))))
  pow := tab_of_reads (g := 4) (zs := Lib.pow10Tab) (k := .u64) (by kernel_rfl) (by kernel_rfl) Tryz.underlying172 Tryz.underlying85 (by kernel_rfl) (by kernel_rfl) (Lib.laidMet.reads hL (.tail _ (.tail _ (.head _))))
theorem isLaw : IsLaw Rows.manifestPutsSpec Tryz.f3.params.size := ⟨rfl, fun H ds h => by match ds, h with | [_, _], _ => rfl⟩
theorem lifted (os : Os) (started : os.Started) (H : Type) (enc : TypeId × Value → H) (F : Stop.Interp) :
    ReturnsInHanded {} Tryz.checked os 3 .any ((OpenSpec.ofChange Rows.manifestPutsSpec).preRow enc Tryz.prog Tryz.f3 Rows.manifestPutsRow.domain false Rows.manifestPutsRow.laid) (((OpenSpec.ofChange Rows.manifestPutsSpec).at F).post enc Tryz.prog Tryz.f3 false true false false) := by
  refine returns_of_walked_card (C := Tryz.checked) (s := Rows.manifestPutsSpec) own started (by kernel_rfl) Tryz.func3 laidOut isLaw rfl Tryz.underlying4 (by rw [Tryz.params3]; exact of_decide_eq_true (by kernel_rfl)) (by kernel_rfl) F
    (ChangeSpec.witness_shaped (enc := enc) (C := Tryz.checked) (os := os) (X := fun w _ => laidMetH Tryz.prog Rows.manifestPutsRow.laid w) false (World.laidAll Tryz.prog os Rows.manifestPutsRow.laid) #[.string .empty, .slice none 0 0] 8 (World.laidAll_os _ _ _)
      (World.shaped_of_ZipB (by kernel_rfl) (by kernel_rfl)) (by kernel_rfl) (by kernel_rfl) (by kernel_rfl)
      (by rw [MakeChecks.laidMetH_plain _ _ _ (by kernel_rfl)]; exact laidMet_laidAll _ (by kernel_rfl) (by kernel_rfl))) ?_
  intro W base args ds ps hL hS hval hA hz
  refine calls_of_spec [9, 22] (by rw [Tryz.params3]) (by intro t ht; simp at ht; rcases ht with rfl | rfl <;> kernel_rfl) ?_ (glob hL hS) hval hA hz
  intro m vs _ hA
  obtain ⟨v0, r0, rfl, h0, hA⟩ := args_one hA
  obtain ⟨v1, r1, rfl, h1, hA⟩ := args_one hA
  obtain rfl := args_nil hA
  obtain ⟨a0, rfl, b0⟩ := arg_str Tryz.underlying9 h0
  obtain ⟨x1, d1, e1, l1⟩ := arg_hdrs h1
  exact man_puts a0 m _ x1 d1
theorem said : Rows.ManifestPutsSaid :=
  OpenClaim.holds_of_cond 3 Tryz.f3 rfl rfl rfl rfl rfl rfl rfl ⟨rfl, rfl, rfl, rfl, rfl⟩ rfl rfl rfl rfl rfl (by kernel_rfl) Tryz.func3 (by kernel_rfl)
    (of_decide_eq_true (by kernel_rfl)) (by unfold Func.isWrapper; first | (rw [if_pos (by decide +kernel)]; kernel_rfl) | (rw [if_neg (by decide +kernel)]; exact ⟨rfl, rfl⟩))
    (fun os started H enc _ F => by rw [OpenClaim.pre_eq_preRow]; exact lifted os started H enc F)
theorem plain (k : FuncId) (fn : Func) (hf : Tryz.pinned.checked.prog.funcNamed "sledge/sledgelaw46.ManifestPuts" = some k) (hfn : Tryz.pinned.checked.prog.funcs[k]? = some fn) :
    true = Tryz.pinned.checked.prog.looks [] ∧ ∀ (j : Nat) t, fn.params[j]? = some t → Tryz.pinned.checked.prog.wantsStandIn t = false := by
  obtain rfl : k = 3 := Option.some.inj ((show Tryz.prog.funcNamed "sledge/sledgelaw46.ManifestPuts" = some 3 by kernel_rfl).symm.trans hf) |>.symm
  obtain rfl : fn = Tryz.f3 := (Option.some.inj (Tryz.func3.symm.trans hfn)).symm
  refine ⟨by kernel_rfl, fun j t ht => ?_⟩
  rw [Tryz.params3] at ht
  have h := Array.mem_of_getElem? ht
  simp at h
  rcases h with rfl | rfl <;> exact (show Tryz.prog.wantsStandIn _ = false by kernel_rfl)
theorem proved : Rows.ManifestPutsCardSaid :=
  Claim7.holds_tied_plain_at .later [] _ _ _ _ said (fun _ h => by cases h) (by kernel_rfl) (fun _ h => by cases h) manifestPuts_row_tie rfl ⟨rfl, rfl⟩ (by kernel_rfl) rfl plain (by kernel_rfl)
#print axioms proved
end Go.Proofs.YtabffcplbjaklaaGreatDoor.manifestPuts
