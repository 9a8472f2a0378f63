import Derived.Test.YthohbneadomgdaaGreatDoorVisi08
import Derived.Test.YthohbneadomgdaaGreatDoorVisi21
set_option linter.all false
namespace Go.Proofs.YthohbneadomgdaaGreatDoor.depotVisible
open Go.ChangeShapes Go.WideShapes Go.ChangeAt Go.RowKit Abs
set_option maxRecDepth 100000
theorem glob {W:World} (_:laidMet Tryz.prog Rows.depotVisibleRow.laid W) (_:W.ShapedOpen Tryz.prog):GlobK W:=trivial
theorem isLaw:IsLaw Rows.depotVisibleSpec Tryz.f4.params.size:=⟨rfl,fun H ds h=>by match ds,h with | [_,_,_,_,_],_=>rfl⟩
theorem lifted (os:Os) (started:os.Started) (H:Type) (enc:TypeId × Value → H) (F:Stop.Interp) :
  ReturnsInHanded {} Tryz.checked os 4 .any ((OpenSpec.ofChange Rows.depotVisibleSpec).preRow enc Tryz.prog Tryz.f4 Rows.depotVisibleRow.domain false Rows.depotVisibleRow.laid) (((OpenSpec.ofChange Rows.depotVisibleSpec).at F).post enc Tryz.prog Tryz.f4 false true false false):=by
 refine Kc (C:=Tryz.checked) (s:=Rows.depotVisibleSpec) own started (by kernel_rfl) Tryz.func4 laidOut isLaw rfl Tryz.underlying4 (by rw [Tryz.params4]; exact of_decide_eq_true (by kernel_rfl)) (by kernel_rfl) F
  (ChangeSpec.witness_shaped (enc:=enc) (C:=Tryz.checked) (os:=os) (X:=fun w _=>laidMetH Tryz.prog Rows.depotVisibleRow.laid w) false (World.laidAll Tryz.prog os Rows.depotVisibleRow.laid) #[.string .empty,.string .empty,.slice none 0 0,.int .i64 0,.int .i64 0] 8 (World.laidAll_os _ _ _)
   (World.shaped_of_ZipB (by kernel_rfl) (by kernel_rfl)) (by kernel_rfl) (by kernel_rfl) (by kernel_rfl)
   (by rw [MakeChecks.laidMetH_plain _ _ _ (by kernel_rfl)]; exact laidMet_laidAll _ (by kernel_rfl) (by kernel_rfl))) ?_
 intro W base args ds ps hL hS hval hA hz
 refine calls_of_spec [9,9,22,3,3] (by rw [Tryz.params4]) (by intro t ht; simp at ht; rcases ht with rfl | rfl | rfl <;> kernel_rfl) ?_ (glob hL hS) hval hA hz
 intro m vs _ hA
 obtain ⟨v0,r0,rfl,h0,hA⟩:=args_one hA
 obtain ⟨v1,r1,rfl,h1,hA⟩:=args_one hA
 obtain ⟨v2,r2,rfl,h2,hA⟩:=args_one hA
 obtain ⟨v3,r3,rfl,h3,hA⟩:=args_one hA
 obtain ⟨v4,r4,rfl,h4,hA⟩:=args_one hA
 obtain rfl:=args_nil hA
 obtain ⟨a0,rfl,b0⟩:=arg_str Tryz.underlying9 h0
 obtain ⟨a1,rfl,b1⟩:=arg_str Tryz.underlying9 h1
 obtain ⟨x2,d2,e2,l2⟩:=arg_nums Tryz.underlying22 Tryz.underlying3 (by kernel_rfl) h2
 obtain ⟨a3,rfl,b3⟩:=arg_int Tryz.underlying3 h3
 obtain ⟨a4,rfl,b4⟩:=arg_int Tryz.underlying3 h4
 exact by
  have h0:a0.size ≤ reachBytes:=b0
  have h1:a1.size ≤ reachBytes:=b1
  have h2:x2.length ≤ reachBytes:=l2
  unfold reachBytes at h0 h1 h2
  have g0:a0 = str a0.data.toList:=ba_ext rfl
  have g1:a1 = str a1.data.toList:=ba_ext rfl
  rw [g0,g1]
  exact depot_visible a0.data.toList a1.data.toList (by rw [← str_size,← g0]; omega) (by rw [← str_size,← g1]; omega) x2 e2 (by omega) a3 a4 m _ d2
theorem c1:(Rows.depotVisibleRow.inPlace == Tryz.pinned.checked.prog.inPlace 4) = true:=by kernel_rfl
theorem c2:(Rows.depotVisibleRow.unfollowed == Tryz.pinned.checked.prog.unfollowed 4) = true:=by kernel_rfl
theorem c3:(Rows.depotVisibleRow.recurses == Tryz.pinned.checked.prog.recurses 4) = true:=by kernel_rfl
theorem c4:(Rows.depotVisibleRow.named == Tryz.pinned.checked.prog.varsNamed 4) = true:=by kernel_rfl
theorem closed:joinedFacts Tryz.pinned.checked.prog 4 Tryz.f4 (OpenSpec.ofChange Rows.depotVisibleSpec).bare Rows.depotVisibleRow = true:=by
 unfold joinedFacts
 rw [c1,c2,c3,c4]
 kernel_rfl
theorem said:Rows.DepotVisibleSaid :=
 OpenClaim.holds_of_cond 4 Tryz.f4 rfl rfl rfl rfl rfl rfl rfl ⟨rfl,rfl,rfl,rfl,rfl⟩ rfl rfl rfl rfl rfl (by kernel_rfl) Tryz.func4 closed
  (of_decide_eq_true (by kernel_rfl)) (by unfold Func.isWrapper; first | (rw [if_pos (by decide +kernel)]; kernel_rfl) | (rw [if_neg (by decide +kernel)]; exact ⟨rfl,rfl⟩))
  (fun os started H enc _ F=>by rw [OpenClaim.pre_eq_preRow]; exact lifted os started H enc F)
theorem plain (k:FuncId) (fn:Func) (hf:Tryz.pinned.checked.prog.funcNamed "sledge/sledgelaw25.DepotVisible" = some k) (hfn:Tryz.pinned.checked.prog.funcs[k]? = some fn) :
  false = Tryz.pinned.checked.prog.looks [] ∧ ∀ (j:Nat) t,fn.params[j]? = some t → Tryz.pinned.checked.prog.wantsStandIn t = false:=by
 obtain rfl:k = 4:=Option.some.inj ((show Tryz.prog.funcNamed "sledge/sledgelaw25.DepotVisible" = some 4 by kernel_rfl).symm.trans hf) |>.symm
 obtain rfl:fn = Tryz.f4:=(Option.some.inj (Tryz.func4.symm.trans hfn)).symm
 refine ⟨by kernel_rfl,fun j t ht=>?_⟩
 rw [Tryz.params4] at ht
 have h:=Array.mem_of_getElem? ht
 simp at h
 rcases h with rfl | rfl | rfl <;> exact (show Tryz.prog.wantsStandIn _ = false by kernel_rfl)
theorem d1:Rows.depotVisibleRow.wfByText (OpenSpec.ofChange Rows.depotVisibleSpec) = true:=by kernel_rfl
theorem d2:Tryz.pinned.checked.prog.mainIs = some (true,("374410746aa651b05fdd99cf729b9f06317f8ecfbcc335e3b316cc6df7506471":String).toList):=by kernel_rfl
theorem d3:false = Rows.depotVisibleRow.goesBy Tryz.pinned.checked.prog:=by kernel_rfl
theorem proved:Rows.DepotVisibleCardSaid :=
 Claim7.holds_tied_plain_at .later [] _ _ _ _ said (fun _ h=>by cases h) d1 (fun _ h=>by cases h) depotVisible_row_tie rfl ⟨rfl,rfl⟩ d2 rfl plain d3
#print axioms proved
end Go.Proofs.YthohbneadomgdaaGreatDoor.depotVisible
