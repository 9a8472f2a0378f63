/-
  Proved here: the card of 'WorldNone': it answers true for every input, and changes nothing, where the library's variables hold what its text lays. No further condition.
-/
import Derived.Test.YtfdijpacbhomjaaGreatDoorWnon08
import Derived.Test.YtfdijpacbhomjaaGreatDoorWnon16
set_option linter.all false
namespace Go.Proofs.YtfdijpacbhomjaaGreatDoor.worldNone
open Go.ChangeShapes Go.WideShapes Go.ChangeAt Go.RowKit Abs
set_option maxRecDepth 100000
theorem glob {W : World} (hL : laidMet Tryz.prog Rows.worldNoneRow.laid W) (hS : W.ShapedOpen Tryz.prog) : GlobK W where
  size := by
    obtain ⟨cs, h, _⟩ := hS.1 2 _ _ (of_decide_eq_true (by kernel_rfl)) (show ((begin Tryz.prog (fun _ _ => 0) default).world.heap[2]?).bind Obj.row? = some (_, _) from rfl)
    have := (Array.getElem?_eq_some_iff.1 h).1
    exact this
  maxLen := cell_of_shapedOpen_int (zero := #[.int .i64 0]) (t := 3) hS (of_decide_eq_true (by kernel_rfl)) (by kernel_rfl) rfl (by kernel_rfl) (by kernel_rfl) Tryz.underlying3
theorem isLaw : IsLaw Rows.worldNoneSpec Tryz.f3.params.size := ⟨rfl, fun H ds h => by match ds, h with | [_, _, _], _ => rfl⟩
theorem lifted (os : Os) (started : os.Started) (H : Type) (enc : TypeId × Value → H) (F : Stop.Interp) :
    ReturnsInHanded {} Tryz.checked os 3 .any ((OpenSpec.ofChange Rows.worldNoneSpec).preRow enc Tryz.prog Tryz.f3 Rows.worldNoneRow.domain false Rows.worldNoneRow.laid) (((OpenSpec.ofChange Rows.worldNoneSpec).at F).post enc Tryz.prog Tryz.f3 false true false false) := by
  refine returns_of_walked_card (C := Tryz.checked) (s := Rows.worldNoneSpec) own started (by kernel_rfl) Tryz.func3 laidOut isLaw rfl Tryz.underlying4 (by rw [Tryz.params3]; exact of_decide_eq_true (by kernel_rfl)) (by kernel_rfl) F
    (ChangeSpec.witness_shaped (enc := enc) (C := Tryz.checked) (os := os) (X := fun w _ => laidMetH Tryz.prog Rows.worldNoneRow.laid w) false (World.laidAll Tryz.prog os Rows.worldNoneRow.laid) #[.int .i64 0, .int .i64 0, .agg #[.int .i64 0, .int .i64 0, .slice none 0 0, .string .empty, .bool false, .int .i64 0, .int .i64 0]] 8 (World.laidAll_os _ _ _)
      (World.shaped_of_ZipB (by kernel_rfl) (by kernel_rfl)) (by kernel_rfl) (by kernel_rfl) (by kernel_rfl)
      (by rw [MakeChecks.laidMetH_plain _ _ _ (by kernel_rfl)]; exact laidMet_laidAll _ (by kernel_rfl) (by kernel_rfl))) ?_
  intro W base args ds ps hL hS hval hA hz
  refine calls_of_spec [3, 3, 26] (by rw [Tryz.params3]) (by intro t ht; simp at ht; rcases ht with rfl | rfl <;> kernel_rfl) ?_ (glob hL hS) hval hA hz
  intro m vs _ hA
  obtain ⟨v0, r0, rfl, h0, hA⟩ := args_one hA
  obtain ⟨v1, r1, rfl, h1, hA⟩ := args_one hA
  obtain ⟨v2, r2, rfl, h2, hA⟩ := args_one hA
  obtain rfl := args_nil hA
  obtain ⟨a0, rfl, b0⟩ := arg_int Tryz.underlying3 h0
  obtain ⟨a1, rfl, b1⟩ := arg_int Tryz.underlying3 h1
  obtain ⟨p0, p1, p2, p3, p4, p5, p6, rfl, o2⟩ := arg_step h2
  exact world_none a0 a1 p0 p1 p2 p3 p4 p5 p6 o2 m
theorem c1 : (Rows.worldNoneRow.inPlace == Tryz.pinned.checked.prog.inPlace 3) = true := by kernel_rfl
theorem c2 : (Rows.worldNoneRow.unfollowed == Tryz.pinned.checked.prog.unfollowed 3) = true := by kernel_rfl
theorem c3 : (Rows.worldNoneRow.recurses == Tryz.pinned.checked.prog.recurses 3) = true := by kernel_rfl
theorem c4 : (Rows.worldNoneRow.named == Tryz.pinned.checked.prog.varsNamed 3) = true := by kernel_rfl
theorem closed : joinedFacts Tryz.pinned.checked.prog 3 Tryz.f3 (OpenSpec.ofChange Rows.worldNoneSpec).bare Rows.worldNoneRow = true := by
  unfold joinedFacts
  rw [c1, c2, c3, c4]
  kernel_rfl
theorem said : Rows.WorldNoneSaid :=
  OpenClaim.holds_of_cond 3 Tryz.f3 rfl rfl rfl rfl rfl rfl rfl ⟨rfl, rfl, rfl, rfl, rfl⟩ rfl rfl rfl rfl rfl (by kernel_rfl) Tryz.func3 closed
    (of_decide_eq_true (by kernel_rfl)) (by unfold Func.isWrapper; first | (rw [if_pos (by decide +kernel)]; kernel_rfl) | (rw [if_neg (by decide +kernel)]; exact ⟨rfl, rfl⟩))
    (fun os started H enc _ F => by rw [OpenClaim.pre_eq_preRow]; exact lifted os started H enc F)
theorem plain (k : FuncId) (fn : Func) (hf : Tryz.pinned.checked.prog.funcNamed "sledge/sledgelaw32.WorldNone" = some k) (hfn : Tryz.pinned.checked.prog.funcs[k]? = some fn) :
    false = Tryz.pinned.checked.prog.looks [] ∧ ∀ (j : Nat) t, fn.params[j]? = some t → Tryz.pinned.checked.prog.wantsStandIn t = false := by
  obtain rfl : k = 3 := Option.some.inj ((show Tryz.prog.funcNamed "sledge/sledgelaw32.WorldNone" = some 3 by kernel_rfl).symm.trans hf) |>.symm
  obtain rfl : fn = Tryz.f3 := (Option.some.inj (Tryz.func3.symm.trans hfn)).symm
  refine ⟨by kernel_rfl, fun j t ht => ?_⟩
  rw [Tryz.params3] at ht
  have h := Array.mem_of_getElem? ht
  simp at h
  rcases h with rfl | rfl <;> exact (show Tryz.prog.wantsStandIn _ = false by kernel_rfl)
theorem d1 : Rows.worldNoneRow.wfByText (OpenSpec.ofChange Rows.worldNoneSpec) = true := by kernel_rfl
theorem d2 : Tryz.pinned.checked.prog.mainIs = some (true, ("cc6b0d75767e9fceffd03d6575a62f5f38a6cf66e512226fee242964021e1cf4" : String).toList) := by kernel_rfl
theorem d3 : false = Rows.worldNoneRow.goesBy Tryz.pinned.checked.prog := by kernel_rfl
theorem proved : Rows.WorldNoneCardSaid :=
  Claim7.holds_tied_plain_at .later [] _ _ _ _ said (fun _ h => by cases h) d1 (fun _ h => by cases h) worldNone_row_tie rfl ⟨rfl, rfl⟩ d2 rfl plain d3
#print axioms proved
end Go.Proofs.YtfdijpacbhomjaaGreatDoor.worldNone
