/-
  The walks of (*parser).inject, fate.
  The walk of (*parser).first.
  The walk of (*parser).pack (under path.Check's contract).
  The walk of (*parser).line (under path.Check's contract).
  The walks of script.Print's closures: a line is put; a side's name.
  The walk of script.Parse (under path.Check's contract).
  The walk of script.Print.
  The walk of path.Check: a range over a function of its own that keeps the rest of the path in a cell. Over worlds.
  The law's example: chapter 36's script is parsed, and printed.
  The walk of the document's Hex.
-/
import Derived.Test.YthcleiegefhmdaaDoorPart08
import Derived.Lib.AtoiAllCases
import Derived.Lib.ItoaMem
import Derived.RangeFuncNested
import Derived.RangeFuncBound
import Derived.RangeFuncBox
import Derived.RangeFuncRecord
import Derived.RangeFuncCalls
import Derived.RangeFuncLeaves
import Derived.Shelf.Abstract
import Derived.Shelf.RegionOpen
import Derived.WalkKit
import Derived.OwnWalkIn
import Derived.TacticsInMore
import Derived.LoopNIn
import Derived.LoopIn
import Derived.Test.YthcleiegefhmdaaDoorPart07
import Derived.Test.YthcleiegefhmdaaDoorChecked
set_option linter.unusedSimpArgs false
set_option linter.unusedVariables false
set_option linter.unusedSectionVars false
set_option linter.unnecessarySimpa false
set_option linter.defProp false
namespace Go.Proofs.YthcleiegefhmdaaDoor
open Go.RowKit Abs
theorem push_set (m : Mem) (x y : Blk) : (m.push x).set m.size (some y) = m.push y := by
  unfold Mem.push Mem.set Mem.size
  simp
set_option maxRecDepth 100000 in
set_option maxHeartbeats 2000000 in
theorem inject_spec (K p : Nat) (st : PState) (ws : List (List UInt8)) (g o n c : Nat) (all : List Value) (m : Mem) (hp : PAt K m p st) (hK : K ≤ m.size) (hlen : st.steps.length ≤ 4096) (hg : m.get g = some (.cells true 1 all)) (ha : ∀ i w, ws[i]? = some w → all[o + i]? = some (.string (str w)))
    (hn : ws.length = n) (hs : ∀ w ∈ ws, w.length ≤ 1000000) :
    Abs.Spec Tryd.prog 38 [.pointer (some ⟨p, 0, none⟩), .slice (some ⟨g, o, none⟩) n c] m (Added K m p st (injectOf ws)) := by
  refine Abs.Spec.walkM Tryd.func38 (by rfl) _ Tryd.results38 _ Tryd.ntmps38 (by simp) ?_
  intro hc hx k
  obtain ⟨R, hR⟩ : ∃ R, R = injectOf ws := ⟨_, rfl⟩
  rw [← hR]
  have no : ∀ M, R = none → Keeps K m M → m.size ≤ M.size → PAt K M p st → ∃ m', Thin M m' ∧ Added K m p st R (.bool false) m' := fun M h h1 h2 h3 => ⟨M, Thin.refl _, by rw [h]; exact Added.no h3 h1 h2⟩
  have hal := al_Step
  generalize aStride Tryd.prog 41 = s1 at hal
  refine CW_seq (CW_region ?_)
  simp only [zZ, reduceIte, Nat.reduceLT, Int.reduceToNat, Int.reduceLE, Int.reduceEq, Int.reduceLT, Nat.reduceEqDiff, Nat.reduceAdd, zTy]
  refine CW_seq (CW_seq (CW_region ?_))
  by_cases h2 : n = 3
  case' neg =>
    have z0 : ((n : Int) != 3) = true := by rw [bne_iff_ne]; omega
    simp only [zZ, reduceIte, Nat.reduceLT, Int.reduceToNat, Int.reduceLE, Int.reduceEq, Int.reduceLT, Nat.reduceEqDiff, Nat.reduceAdd, zTy, z0]
    refine CW_cond true (by rfl) (fun _ => CW_seq (CW_region ?_)) (fun h => by cases h)
    simp only [zZ, reduceIte, Nat.reduceLT, Int.reduceToNat, Int.reduceLE, Int.reduceEq, Int.reduceLT, Nat.reduceEqDiff, Nat.reduceAdd, zTy]
    refine CW_ret ?_
    simp only [zZ, reduceIte, Nat.reduceLT, Int.reduceToNat, Int.reduceLE, Int.reduceEq, Int.reduceLT, Nat.reduceEqDiff, Nat.reduceAdd, zTy, mEnd, sAnswer, sAnswer.sRes]
    refine no m ?_ (Keeps.refl _ _) (Nat.le_refl _) hp
    rw [hR]
    match ws, hn with
    | [], _ => rfl
    | [_], _ => rfl
    | [_, _], _ => rfl
    | [_, _, _], h => exact absurd h.symm h2
    | _ :: _ :: _ :: _ :: _, _ => rfl
  subst h2
  obtain ⟨w0, w1, w2, rfl⟩ : ∃ w0 w1 w2, ws = [w0, w1, w2] := by
    match ws, hn with
    | [w0, w1, w2], _ => exact ⟨w0, w1, w2, rfl⟩
  have a0 := ha 0 w0 rfl
  have a1 := ha 1 w1 rfl
  have a2 := ha 2 w2 rfl
  have l2 : ((3 : Nat) : Int) = 3 := rfl
  have z0 : ((3 : Int) != 3) = false := rfl
  have b0 : beqB (str w0) ⟨#[115, 101, 110, 100, 101, 114]⟩ = decide (w0 = wSender) := beqB_str w0 _
  have b1 : beqB (str w0) ⟨#[114, 101, 99, 101, 105, 118, 101, 114]⟩ = decide (w0 = wReceiver) := beqB_str w0 _
  have hR1 : R = if w0 = wSender ∨ w0 = wReceiver then
      (if (unhexV w1).2 = true then (numQ w2 0 64).map fun n => (⟨6, if w0 = wSender then 1 else 0, [], (unhexV w1).1, false, n, 0⟩, 1) else none) else none := hR
  have hw1 := hs w1 (by simp)
  have hw2 := hs w2 (by simp)
  have adds : ∀ (x : StepL) (C : Value) (s : Nat) (cs : List Value), x.files = [] → C = .agg (stepC (x, .slice none 0 0)).toArray → R = some (x, 1) → Abs.Spec Tryd.prog 36 [.pointer (some ⟨p, 0, none⟩), C, .int .i64 1] (m.push (.cells false s cs)) (Added K m p st R) := fun x C s cs hf hC h => by
    subst hC
    rw [h]
    refine (added_spec K p st x _ 1 1 rfl (m.push (.cells false s cs)) (hp.push _) (by rw [Mem.size_push]; omega) (by rw [hf]; exact FilesAt.nil _) hlen (by decide)).thin ?_
    exact fun v M h => ⟨M, Thin.refl _, h.mono (Keeps.push _ _ _) (by rw [Mem.size_push]; omega)⟩
  cases c0 : decide (w0 = wSender) <;> cases c1 : decide (w0 = wReceiver) <;> simp only [zZ, reduceIte, Nat.reduceLT, Int.reduceToNat, Int.reduceLE, Int.reduceEq, Int.reduceLT, Nat.reduceEqDiff, Nat.reduceAdd, zTy, l2, z0, hg, a0, b0, b1, c0, c1]
  case' false.false =>
    refine CW_cond true (by rfl) (fun _ => CW_seq (CW_region ?_)) (fun h => by cases h)
    simp only [zZ, reduceIte, Nat.reduceLT, Int.reduceToNat, Int.reduceLE, Int.reduceEq, Int.reduceLT, Nat.reduceEqDiff, Nat.reduceAdd, zTy]
    refine CW_ret ?_
    simp only [zZ, reduceIte, Nat.reduceLT, Int.reduceToNat, Int.reduceLE, Int.reduceEq, Int.reduceLT, Nat.reduceEqDiff, Nat.reduceAdd, zTy, mEnd, sAnswer, sAnswer.sRes]
    exact no m (by rw [hR1, if_neg]; rintro (h | h); exact of_decide_eq_false c0 h; exact of_decide_eq_false c1 h) (Keeps.refl _ _) (Nat.le_refl _) hp
  all_goals
    have hor : w0 = wSender ∨ w0 = wReceiver := by first | exact .inl (of_decide_eq_true c0) | exact .inr (of_decide_eq_true c1)
    rw [if_pos hor] at hR1
    refine CW_cond false (by rfl) (fun h => by cases h) (fun _ => CW_skip ?_)
    simp only [zZ, reduceIte, Nat.reduceLT, Int.reduceToNat, Int.reduceLE, Int.reduceEq, Int.reduceLT, Nat.reduceEqDiff, Nat.reduceAdd]
    refine CW_seq (CW_region ?_)
    simp only [zZ, reduceIte, Nat.reduceLT, Int.reduceToNat, Int.reduceLE, Int.reduceEq, Int.reduceLT, Nat.reduceEqDiff, Nat.reduceAdd, zTy, l2, hg, a1]
    refine ⟨by kernel_rfl, _, unhex_spec (str w1) (by rw [Go.Proofs.YthcleiegefhmdaaDoor.str_size]; omega) _, ?_⟩
    rintro _ _ ⟨rfl, rfl⟩
    simp only [zZ, reduceIte, Nat.reduceLT, Int.reduceToNat, Int.reduceLE, Int.reduceEq, Int.reduceLT, Nat.reduceEqDiff, Nat.reduceAdd, zTy, str_data]
    refine CW_seq (CW_region ?_)
    simp only [zZ, reduceIte, Nat.reduceLT, Int.reduceToNat, Int.reduceLE, Int.reduceEq, Int.reduceLT, Nat.reduceEqDiff, Nat.reduceAdd, zTy, l2, hg, a2]
    refine ⟨by kernel_rfl, _, number_spec (str w2) 0 64 (by rw [Go.Proofs.YthcleiegefhmdaaDoor.str_size]; omega) _, ?_⟩
    rintro _ _ ⟨rfl, rfl⟩
    simp only [zZ, reduceIte, Nat.reduceLT, Int.reduceToNat, Int.reduceLE, Int.reduceEq, Int.reduceLT, Nat.reduceEqDiff, Nat.reduceAdd, zTy, str_data]
    unfold numQ at hR1
    rcases hxk : numP w2 0 64 with ⟨x, ok⟩
    rcases huk : unhexV w1 with ⟨y, is⟩
    rw [hxk, huk] at hR1
    refine CW_seq (CW_region ?_)
    simp only [zZ, reduceIte, Nat.reduceLT, Int.reduceToNat, Int.reduceLE, Int.reduceEq, Int.reduceLT, Nat.reduceEqDiff, Nat.reduceAdd, zTy, build_fateD, build_stepI, hal, Mem.get_push_new, push_set]
    refine CW_seq (CW_seq (CW_region ?_))
    simp only [zZ, reduceIte, Nat.reduceLT, Int.reduceToNat, Int.reduceLE, Int.reduceEq, Int.reduceLT, Nat.reduceEqDiff, Nat.reduceAdd, zTy, l2, hg, a0, b0, c0, Mem.get_push_old (get_live hg)]
    first
      | refine CW_cond true (by rfl) (fun _ => CW_region ?_) (fun h => by cases h)
        simp only [zZ, reduceIte, Nat.reduceLT, Int.reduceToNat, Int.reduceLE, Int.reduceEq, Int.reduceLT, Nat.reduceEqDiff, Nat.reduceAdd, zTy, Mem.get_push_new, push_set]
      | refine CW_cond false (by rfl) (fun h => by cases h) (fun _ => CW_skip ?_)
        simp only [zZ, reduceIte, Nat.reduceLT, Int.reduceToNat, Int.reduceLE, Int.reduceEq, Int.reduceLT, Nat.reduceEqDiff, Nat.reduceAdd]
    refine CW_seq (CW_region ?_)
    cases is <;> cases ok <;> simp only [zZ, reduceIte, Nat.reduceLT, Int.reduceToNat, Int.reduceLE, Int.reduceEq, Int.reduceLT, Nat.reduceEqDiff, Nat.reduceAdd, zTy, Mem.get_push_new]
    case' true.true =>
      first
        | refine ⟨by kernel_rfl, _, adds ⟨6, 1, [], y, false, x, 0⟩ _ _ _ rfl rfl (by rw [hR1, if_pos (of_decide_eq_true c0)]; rfl), ?_⟩
        | refine ⟨by kernel_rfl, _, adds ⟨6, 0, [], y, false, x, 0⟩ _ _ _ rfl rfl (by rw [hR1, if_neg (of_decide_eq_false c0)]; rfl), ?_⟩
      rintro u M hA
      obtain ⟨bb, hbb⟩ := hA.bool
      subst hbb
      simp only [zZ, reduceIte, Nat.reduceLT, Int.reduceToNat, Int.reduceLE, Int.reduceEq, Int.reduceLT, Nat.reduceEqDiff, Nat.reduceAdd, zTy]
      refine CW_ret ?_
      simp only [zZ, reduceIte, Nat.reduceLT, Int.reduceToNat, Int.reduceLE, Int.reduceEq, Int.reduceLT, Nat.reduceEqDiff, Nat.reduceAdd, zTy, mEnd, sAnswer, sAnswer.sRes]
      exact ⟨M, Thin.refl _, hA⟩
    all_goals
      refine CW_ret ?_
      simp only [zZ, reduceIte, Nat.reduceLT, Int.reduceToNat, Int.reduceLE, Int.reduceEq, Int.reduceLT, Nat.reduceEqDiff, Nat.reduceAdd, zTy, mEnd, sAnswer, sAnswer.sRes]
      exact no _ (by rw [hR1]; rfl) (Keeps.push _ _ _) (by rw [Mem.size_push]; omega) (hp.push _)
theorem numsV_len2 : ∀ {ws : List (List UInt8)} {bs : List (Int × Int)} {q : List Int}, numsV ws bs = some q → q.length = bs.length
  | [], [], q, h => by simp [numsV] at h; subst h; rfl
  | [], _ :: _, _, h => by cases h
  | _ :: _, [], _, h => by cases h
  | w :: r, b :: bs, q, h => by
    rw [numsV] at h
    split at h
    · rw [Option.map_eq_some_iff] at h
      obtain ⟨q', h1, rfl⟩ := h
      simp [numsV_len2 h1]
    · cases h
theorem new_twos2 (a b c d : Int) : nBuildSlice Tryd.prog 91 2 [(0, .agg #[.int .i64 a, .int .i64 b]), (1, .agg #[.int .i64 c, .int .i64 d])] = some (.cells false 2 [.int .i64 a, .int .i64 b, .int .i64 c, .int .i64 d]) := by kernel_rfl
theorem build_two (a b : Int) : aBuild Tryd.prog 80 [(0, .int .i64 a), (1, .int .i64 b)] = some (.agg #[.int .i64 a, .int .i64 b]) := by kernel_rfl
set_option maxRecDepth 100000 in
set_option maxHeartbeats 2000000 in
theorem fate_spec (K p : Nat) (st : PState) (ws : List (List UInt8)) (g o n c : Nat) (all : List Value) (m : Mem) (hp : PAt K m p st) (hK : K ≤ m.size) (hlen : st.steps.length ≤ 4096) (hg : m.get g = some (.cells true 1 all)) (ha : ∀ i w, ws[i]? = some w → all[o + i]? = some (.string (str w)))
    (hn : ws.length = n) (hs : ∀ w ∈ ws, w.length ≤ 1000000) :
    Abs.Spec Tryd.prog 39 [.pointer (some ⟨p, 0, none⟩), .slice (some ⟨g, o, none⟩) n c] m (Added K m p st (fateOf ws)) := by
  refine Abs.Spec.walkM Tryd.func39 (by rfl) _ Tryd.results39 _ Tryd.ntmps39 (by simp) ?_
  intro hc hx k
  obtain ⟨R, hR⟩ : ∃ R, R = fateOf ws := ⟨_, rfl⟩
  rw [← hR]
  have no : ∀ M, R = none → Keeps K m M → m.size ≤ M.size → PAt K M p st → ∃ m', Thin M m' ∧ Added K m p st R (.bool false) m' := fun M h h1 h2 h3 => ⟨M, Thin.refl _, by rw [h]; exact Added.no h3 h1 h2⟩
  refine CW_seq (CW_region ?_)
  simp only [zZ, reduceIte, Nat.reduceLT, Int.reduceToNat, Int.reduceLE, Int.reduceEq, Int.reduceLT, Nat.reduceEqDiff, Nat.reduceAdd, zTy]
  refine CW_seq (CW_seq (CW_region ?_))
  have adds : ∀ (x : StepL) (C : Value) (M : Mem), Keeps K m M → m.size ≤ M.size → PAt K M p st → x.files = [] → C = .agg (stepC (x, .slice none 0 0)).toArray → R = some (x, 1) → Abs.Spec Tryd.prog 36 [.pointer (some ⟨p, 0, none⟩), C, .int .i64 1] M (Added K m p st R) := fun x C M hk hsz hpM hf hC h => by
    subst hC
    rw [h]
    refine (added_spec K p st x _ 1 1 rfl M hpM (by omega) (by rw [hf]; exact FilesAt.nil _) hlen (by decide)).thin ?_
    exact fun v M' h => ⟨M', Thin.refl _, h.mono hk hsz⟩
  -- the word drop
  have hdrop : n = 1 → ∃ w0, ws = [w0] := fun h => by
    match ws, hn.trans h with
    | [w0], _ => exact ⟨w0, rfl⟩
  by_cases hd : ws = [wDrop]
  · subst hd
    have h1 : n = 1 := hn.symm
    subst h1
    have a0 := ha 0 wDrop rfl
    have z0 : (((1 : Nat) : Int) == 1) = true := rfl
    have l1 : ((1 : Nat) : Int) = 1 := rfl
    have z1 : ((1 : Int) == 1) = true := rfl
    have b0 : beqB (str wDrop) ⟨#[100, 114, 111, 112]⟩ = true := by decide
    simp only [zZ, reduceIte, Nat.reduceLT, Int.reduceToNat, Int.reduceLE, Int.reduceEq, Int.reduceLT, Nat.reduceEqDiff, Nat.reduceAdd, zTy, l1, z1, hg, a0, b0]
    refine CW_cond true (by rfl) (fun _ => CW_seq (CW_region ?_)) (fun h => by cases h)
    simp only [zZ, reduceIte, Nat.reduceLT, Int.reduceToNat, Int.reduceLE, Int.reduceEq, Int.reduceLT, Nat.reduceEqDiff, Nat.reduceAdd, zTy, build_fate1, build_stepF]
    refine ⟨by kernel_rfl, _, adds ⟨7, 0, [], [], true, 0, 0⟩ _ m (Keeps.refl _ _) (Nat.le_refl _) hp rfl rfl hR, ?_⟩
    rintro u M hA
    obtain ⟨bb, hbb⟩ := hA.bool
    subst hbb
    simp only [zZ, reduceIte, Nat.reduceLT, Int.reduceToNat, Int.reduceLE, Int.reduceEq, Int.reduceLT, Nat.reduceEqDiff, Nat.reduceAdd, zTy]
    refine CW_ret ?_
    simp only [zZ, reduceIte, Nat.reduceLT, Int.reduceToNat, Int.reduceLE, Int.reduceEq, Int.reduceLT, Nat.reduceEqDiff, Nat.reduceAdd, zTy, mEnd, sAnswer, sAnswer.sRes]
    exact ⟨M, Thin.refl _, hA⟩
  obtain ⟨M1, hM1⟩ : ∃ M1, M1 = m.push (.cells false 2 [.int .i64 0, .int .i64 64, .int .i64 0, .int .i64 3]) := ⟨_, rfl⟩
  have hg1 : M1.get g = some (.cells true 1 all) := by rw [hM1, Mem.get_push_old (get_live hg)]; exact hg
  have hb1 : M1.get m.size = some (.cells false 2 (([(0, 64), (0, 3)] : List (Int × Int)).flatMap bC)) := by rw [hM1, Mem.get_push_new]; rfl
  have hp1 : PAt K M1 p st := by rw [hM1]; exact hp.push _
  have hk1 : Keeps K m M1 := by rw [hM1]; exact Keeps.push _ _ _
  have hs1 : M1.size = m.size + 1 := by rw [hM1, Mem.size_push]
  have hnums := numbers_spec ws [(0, 64), (0, 3)] g o n c m.size 2 true false all M1 hg1 ha hn hb1 rfl (by decide) (by decide) hs
  have hR2 : R = match numsV ws [(0, 64), (0, 3)] with
      | some [d, c] => some (⟨7, 0, [], [], false, d, c⟩, 1)
      | _ => none := by
    rw [hR]
    match ws with
    | [] => rfl
    | [a] =>
      have : ¬ a = wDrop := fun e => hd (by rw [e])
      rw [fateOf, if_neg this, numsV_len _ _ (by simp)]
    | [a, b] =>
      simp only [fateOf, numsV, numQ]
      by_cases h1 : (numP a 0 64).2 = true <;> by_cases h2 : (numP b 0 3).2 = true <;> simp [h1, h2]
    | a :: b :: c :: r => rw [numsV_len _ _ (by simp)]; rfl
  have fin : ∀ (h : Abs.Spec Tryd.prog 35 [.slice (some ⟨g, o, none⟩) n c, .slice (some ⟨m.size, 0, none⟩) 2 2] M1 (numsR M1 2 (numsV ws [(0, 64), (0, 3)]))), True := fun _ => trivial
  have cond : ∀ (f : AL) (Q : Exit → AL → Mem → Prop), True := fun _ _ => trivial
  have hgd : ∀ (h1 : n = 1) w0, ws = [w0] → decide (w0 = wDrop) = false := fun _ w0 h => decide_eq_false fun e => hd (by rw [h, e])
  have rest : ∀ f : AL, AL.get f 0 = some (.pointer (some ⟨p, 0, none⟩)) → AL.get f 1 = some (.slice (some ⟨g, o, none⟩) n c) → True := fun _ _ _ => trivial
  clear fin cond rest
  have z0 : (n = 1 ∧ ∃ w0, ws = [w0] ∧ ¬ w0 = wDrop) ∨ n ≠ 1 := by
    by_cases h : n = 1
    · obtain ⟨w0, hw⟩ := hdrop h
      exact .inl ⟨h, w0, hw, fun e => hd (by rw [hw, e])⟩
    · exact .inr h
  rcases z0 with ⟨rfl, w0, rfl, hw0⟩ | hn1
  case' inl =>
    have a0 := ha 0 w0 rfl
    have l1 : ((1 : Nat) : Int) = 1 := rfl
    have z1 : ((1 : Int) == 1) = true := rfl
    have b0 : beqB (str w0) ⟨#[100, 114, 111, 112]⟩ = decide (w0 = wDrop) := beqB_str w0 _
    rw [decide_eq_false hw0] at b0
    simp only [zZ, reduceIte, Nat.reduceLT, Int.reduceToNat, Int.reduceLE, Int.reduceEq, Int.reduceLT, Nat.reduceEqDiff, Nat.reduceAdd, zTy, l1, z1, hg, a0, b0]
  case' inr =>
    have z1 : ((n : Int) == 1) = false := by rw [beq_eq_false_iff_ne]; omega
    simp only [zZ, reduceIte, Nat.reduceLT, Int.reduceToNat, Int.reduceLE, Int.reduceEq, Int.reduceLT, Nat.reduceEqDiff, Nat.reduceAdd, zTy, z1]
  all_goals
    refine CW_cond false (by rfl) (fun h => by cases h) (fun _ => CW_skip ?_)
    simp only [zZ, reduceIte, Nat.reduceLT, Int.reduceToNat, Int.reduceLE, Int.reduceEq, Int.reduceLT, Nat.reduceEqDiff, Nat.reduceAdd]
    refine CW_seq (CW_region ?_)
    simp only [zZ, reduceIte, Nat.reduceLT, Int.reduceToNat, Int.reduceLE, Int.reduceEq, Int.reduceLT, Nat.reduceEqDiff, Nat.reduceAdd, zTy, build_two, new_twos2, ← hM1]
    refine ⟨by kernel_rfl, _, hnums, ?_⟩
    rintro u M hN
    cases hq : numsV _ [(0, 64), (0, 3)] with
    | none =>
      rw [hq] at hN hR2
      obtain ⟨rfl, rfl⟩ := hN
      simp only [zZ, reduceIte, Nat.reduceLT, Int.reduceToNat, Int.reduceLE, Int.reduceEq, Int.reduceLT, Nat.reduceEqDiff, Nat.reduceAdd, zTy]
      refine CW_seq (CW_draw hmix 11 (by kernel_rfl) (by kernel_rfl) ?_)
      simp only [zZ, reduceIte, Nat.reduceLT, Int.reduceToNat, Int.reduceLE, Int.reduceEq, Int.reduceLT, Nat.reduceEqDiff, Nat.reduceAdd, zTy]
      refine CW_ret ?_
      simp only [zZ, reduceIte, Nat.reduceLT, Int.reduceToNat, Int.reduceLE, Int.reduceEq, Int.reduceLT, Nat.reduceEqDiff, Nat.reduceAdd, zTy, mEnd, sAnswer, sAnswer.sRes]
      exact no _ hR2 hk1 (by omega) hp1
    | some q =>
      rw [hq] at hN hR2
      obtain ⟨rfl, hM⟩ := hN
      obtain ⟨d, cc, rfl⟩ : ∃ d cc, q = [d, cc] := by
        have hl := numsV_len2 hq
        match q, hl with
        | [d, cc], _ => exact ⟨d, cc, rfl⟩
      have hge : M.get M1.size = some (.cells false 1 [.int .i64 d, .int .i64 cc]) := by
        rw [hM]
        have := ext_get M1 [some (some (.cells false 1 (iC [d, cc])))] 0
        rw [Nat.add_zero] at this
        rw [this]; rfl
      have hk2 : Keeps K m M := by rw [hM]; exact hk1.trans (Keeps.ext _ _ _)
      have hs2 : m.size ≤ M.size := by rw [hM, ext_size]; omega
      have hp2 : PAt K M p st := by rw [hM]; exact hp1.ext _
      clear hM
      have l22 : ((2 : Nat) : Int) = 2 := rfl
      simp only [zZ, reduceIte, Nat.reduceLT, Int.reduceToNat, Int.reduceLE, Int.reduceEq, Int.reduceLT, Nat.reduceEqDiff, Nat.reduceAdd, zTy]
      refine CW_seq (CW_draw hmix 11 (by kernel_rfl) (by kernel_rfl) ?_)
      simp only [zZ, reduceIte, Nat.reduceLT, Int.reduceToNat, Int.reduceLE, Int.reduceEq, Int.reduceLT, Nat.reduceEqDiff, Nat.reduceAdd, zTy, l22, hge, build_fateC, build_stepF]
      refine ⟨by kernel_rfl, _, adds ⟨7, 0, [], [], false, d, cc⟩ _ M hk2 hs2 hp2 rfl rfl hR2, ?_⟩
      rintro u M3 hA
      obtain ⟨bb, hbb⟩ := hA.bool
      subst hbb
      simp only [zZ, reduceIte, Nat.reduceLT, Int.reduceToNat, Int.reduceLE, Int.reduceEq, Int.reduceLT, Nat.reduceEqDiff, Nat.reduceAdd, zTy]
      refine CW_ret ?_
      simp only [zZ, reduceIte, Nat.reduceLT, Int.reduceToNat, Int.reduceLE, Int.reduceEq, Int.reduceLT, Nat.reduceEqDiff, Nat.reduceAdd, zTy, mEnd, sAnswer, sAnswer.sRes]
      exact ⟨M3, Thin.refl _, hA⟩
end Go.Proofs.YthcleiegefhmdaaDoor
namespace Go.Proofs.YthcleiegefhmdaaDoor
open Go.RowKit Abs
def firstOf (ws : List (List UInt8)) : Option (Int × Int × Int × Int) := match ws with
  | w0 :: r => if w0 = wordWorld then (match numsV r [(13, 1024), (13, 1024), (0, 1000), (0, 64)] with
    | some [a, b, c, d] => some (a, b, c, d)
    | _ => none) else none
  | [] => none
def FirstR (K : Nat) (m : Mem) (p : Nat) (st : PState) (r : Option (Int × Int × Int × Int)) (u : Value) (M : Mem) : Prop :=
  Keeps K m M ∧ m.size ≤ M.size ∧ match r with
    | none => u = .bool false ∧ PAt K M p st
    | some (a, b, c, d) => u = .bool true ∧ PAt K M p ⟨a, b, c, d, [], st.n⟩
theorem new_twos4 (a b c d e f g h : Int) : nBuildSlice Tryd.prog 91 4 [(0, .agg #[.int .i64 a, .int .i64 b]), (1, .agg #[.int .i64 c, .int .i64 d]), (2, .agg #[.int .i64 e, .int .i64 f]), (3, .agg #[.int .i64 g, .int .i64 h])] = some (.cells false 2 [.int .i64 a, .int .i64 b, .int .i64 c, .int .i64 d, .int .i64 e, .int .i64 f, .int .i64 g, .int .i64 h]) := by kernel_rfl
theorem build_fair (a b : Int) : aBuild Tryd.prog 26 [(0, .int .i64 a), (1, .int .i64 b)] = some (.agg #[.int .i64 a, .int .i64 b]) := by kernel_rfl
theorem build_scr (a b c d : Int) : aBuild Tryd.prog 29 [(0, .int .i64 a), (1, .int .i64 b), (2, .agg #[.int .i64 c, .int .i64 d])] = some (.agg #[.int .i64 a, .int .i64 b, .int .i64 c, .int .i64 d, .slice none 0 0]) := by kernel_rfl
theorem slice_words {get : Nat → Option Blk} {g n : Nat} {ro : Bool} {all : List Value} (hg : get g = some (.cells ro 1 all)) (hn : 1 ≤ n) :
    gSlice Tryd.prog get 58 (.slice (some ⟨g, 0, none⟩) n n) (some (.int .i64 1)) none = some (.slice (some ⟨g, 1, none⟩) (n - 1) (n - 1)) := by
  unfold gSlice aBound
  simp only [Tryd.underlying58, inf_Str, sz_Str, hg]
  rw [if_pos (by omega)]
  simp
set_option maxRecDepth 100000 in
set_option maxHeartbeats 2000000 in
theorem first_spec (K p : Nat) (st : PState) (ws : List (List UInt8)) (g n : Nat) (m : Mem) (hp : PAt K m p st) (hg : m.get g = some (.cells true 1 (sC ws)))
    (hn : ws.length = n) (hn1 : 1 ≤ n) (hs : ∀ w ∈ ws, w.length ≤ 1000000) :
    Abs.Spec Tryd.prog 33 [.pointer (some ⟨p, 0, none⟩), .slice (some ⟨g, 0, none⟩) n n] m (FirstR K m p st (firstOf ws)) := by
  refine Abs.Spec.walkM Tryd.func33 (by rfl) _ Tryd.results33 _ Tryd.ntmps33 (by simp) ?_
  intro hc hx k
  obtain ⟨w0, r, rfl⟩ : ∃ w0 r, ws = w0 :: r := by
    cases ws with
    | nil => simp at hn; omega
    | cons w0 r => exact ⟨w0, r, rfl⟩
  obtain ⟨R, hR⟩ : ∃ R, R = firstOf (w0 :: r) := ⟨_, rfl⟩
  rw [← hR]
  have hal := al_Two
  generalize aStride Tryd.prog 80 = s1 at hal
  refine CW_seq (CW_region ?_)
  simp only [zZ, reduceIte, Nat.reduceLT, Int.reduceToNat, Int.reduceLE, Int.reduceEq, Int.reduceLT, Nat.reduceEqDiff, Nat.reduceAdd, zTy]
  refine CW_seq (CW_region ?_)
  simp only [zZ, reduceIte, Nat.reduceLT, Int.reduceToNat, Int.reduceLE, Int.reduceEq, Int.reduceLT, Nat.reduceEqDiff, Nat.reduceAdd, zTy, build_two, hal, Mem.get_push_new, push_set]
  obtain ⟨M1, hM1⟩ : ∃ M1, M1 = m.push (.cells false s1 [.int .i64 13, .int .i64 1024]) := ⟨_, rfl⟩
  have hg1 : M1.get g = some (.cells true 1 (sC (w0 :: r))) := by rw [hM1, Mem.get_push_old (get_live hg)]; exact hg
  have hb1 : M1.get m.size = some (.cells false s1 [.int .i64 13, .int .i64 1024]) := by rw [hM1, Mem.get_push_new]
  have hp1 : PAt K M1 p st := by rw [hM1]; exact hp.push _
  have hk1 : Keeps K m M1 := by rw [hM1]; exact Keeps.push _ _ _
  have hs1 : M1.size = m.size + 1 := by rw [hM1, Mem.size_push]
  rw [← hM1]
  clear hM1
  have hget0 : (sC (w0 :: r))[0]? = some (.string (str w0)) := rfl
  have hb0 : beqB (str w0) ⟨#[119, 111, 114, 108, 100]⟩ = decide (w0 = wordWorld) := beqB_str w0 _
  have h1n : (0 : Int) < (n : Int) := by omega
  refine CW_seq (CW_seq (CW_region ?_))
  simp only [zZ, reduceIte, Nat.reduceLT, Int.reduceToNat, Int.reduceLE, Int.reduceEq, Int.reduceLT, Nat.reduceEqDiff, Nat.reduceAdd, zTy, h1n, hg1, hget0, hb0]
  refine CW_cond (!decide (w0 = wordWorld)) (by rfl) (fun h => CW_seq (CW_region ?_)) (fun h => CW_skip ?_)
  · simp only [zZ, reduceIte, Nat.reduceLT, Int.reduceToNat, Int.reduceLE, Int.reduceEq, Int.reduceLT, Nat.reduceEqDiff, Nat.reduceAdd, zTy]
    refine CW_ret ?_
    simp only [zZ, reduceIte, Nat.reduceLT, Int.reduceToNat, Int.reduceLE, Int.reduceEq, Int.reduceLT, Nat.reduceEqDiff, Nat.reduceAdd, zTy, mEnd, sAnswer, sAnswer.sRes]
    refine ⟨M1, Thin.refl _, hk1, by omega, ?_⟩
    rw [hR, firstOf, if_neg (by simpa using h)]
    exact ⟨rfl, hp1⟩
  have hw : w0 = wordWorld := by simpa using h
  have hR1 : R = (match numsV r [(13, 1024), (13, 1024), (0, 1000), (0, 64)] with
    | some [a, b, c, d] => some (a, b, c, d)
    | _ => none) := by rw [hR, firstOf, if_pos hw]
  simp only [zZ, reduceIte, Nat.reduceLT, Int.reduceToNat, Int.reduceLE, Int.reduceEq, Int.reduceLT, Nat.reduceEqDiff, Nat.reduceAdd]
  obtain ⟨M2, hM2⟩ : ∃ M2, M2 = M1.push (.cells false 2 [.int .i64 13, .int .i64 1024, .int .i64 13, .int .i64 1024, .int .i64 0, .int .i64 1000, .int .i64 0, .int .i64 64]) := ⟨_, rfl⟩
  have hg2 : M2.get g = some (.cells true 1 (sC (w0 :: r))) := by rw [hM2, Mem.get_push_old (get_live hg1)]; exact hg1
  have hb2 : M2.get M1.size = some (.cells false 2 (([(13, 1024), (13, 1024), (0, 1000), (0, 64)] : List (Int × Int)).flatMap bC)) := by rw [hM2, Mem.get_push_new]; rfl
  have hp2 : PAt K M2 p st := by rw [hM2]; exact hp1.push _
  have hk2 : Keeps K m M2 := by rw [hM2]; exact hk1.trans (Keeps.push _ _ _)
  have hs2 : M2.size = m.size + 2 := by rw [hM2, Mem.size_push, hs1]
  have hnums := numbers_spec r [(13, 1024), (13, 1024), (0, 1000), (0, 64)] g 1 (n - 1) (n - 1) M1.size 4 true false (sC (w0 :: r)) M2 hg2 (fun i w hi => by
    rw [Nat.add_comm]; show (sC r)[i]? = _; exact get_str r i w hi) (by simp at hn; omega) hb2 rfl (by decide) (by decide) (fun w hw => hs w (List.mem_cons_of_mem _ hw))
  have hsl := fun (get : Nat → Option Blk) (h : get g = some (.cells true 1 (sC (w0 :: r)))) => slice_words h hn1
  have hrow : rowIn 2 0 (some (.cells false s1 [.int .i64 13, .int .i64 1024])) = some (.agg #[.int .i64 13, .int .i64 1024]) := rfl
  refine CW_seq (CW_drawn hmix [(7, 8), (13, 13)] (by kernel_rfl) ?_)
  simp only [sPhB, Nat.reduceSub, Nat.sub_zero, zZ, reduceIte, Nat.reduceLT, Int.reduceToNat, Int.reduceLE, Int.reduceEq, Int.reduceLT, Nat.reduceEqDiff, Nat.reduceAdd, zTy, hsl _ hg1, hb1, hrow, build_two, new_twos4, ← hM2]
  refine ⟨by kernel_rfl, _, hnums, ?_⟩
  rintro u M hN
  cases hq : numsV r [(13, 1024), (13, 1024), (0, 1000), (0, 64)] with
  | none =>
    rw [hq] at hN hR1
    obtain ⟨rfl, rfl⟩ := hN
    simp only [sPhB, Nat.reduceSub, zZ, reduceIte, Nat.reduceLT, Int.reduceToNat, Int.reduceLE, Int.reduceEq, Int.reduceLT, Nat.reduceEqDiff, Nat.reduceAdd, zTy]
    refine CW_seq (CW_seq (CW_region ?_))
    simp only [zZ, reduceIte, Nat.reduceLT, Int.reduceToNat, Int.reduceLE, Int.reduceEq, Int.reduceLT, Nat.reduceEqDiff, Nat.reduceAdd, zTy]
    refine CW_cond false (by rfl) (fun h => by cases h) (fun _ => CW_skip ?_)
    simp only [zZ, reduceIte, Nat.reduceLT, Int.reduceToNat, Int.reduceLE, Int.reduceEq, Int.reduceLT, Nat.reduceEqDiff, Nat.reduceAdd]
    refine CW_seq (CW_region ?_)
    simp only [zZ, reduceIte, Nat.reduceLT, Int.reduceToNat, Int.reduceLE, Int.reduceEq, Int.reduceLT, Nat.reduceEqDiff, Nat.reduceAdd, zTy]
    refine CW_ret ?_
    simp only [zZ, reduceIte, Nat.reduceLT, Int.reduceToNat, Int.reduceLE, Int.reduceEq, Int.reduceLT, Nat.reduceEqDiff, Nat.reduceAdd, zTy, mEnd, sAnswer, sAnswer.sRes]
    refine ⟨_, Thin.refl _, hk2, by omega, ?_⟩
    rw [hR1]
    exact ⟨rfl, hp2⟩
  | some q =>
    rw [hq] at hN hR1
    obtain ⟨rfl, hM⟩ := hN
    obtain ⟨a, b, c, d, rfl⟩ : ∃ a b c d, q = [a, b, c, d] := by
      have hl := numsV_len2 hq
      match q, hl with
      | [a, b, c, d], _ => exact ⟨a, b, c, d, rfl⟩
    have hge : M.get M2.size = some (.cells false 1 [.int .i64 a, .int .i64 b, .int .i64 c, .int .i64 d]) := by
      rw [hM]
      have := ext_get M2 [some (some (.cells false 1 (iC [a, b, c, d])))] 0
      rw [Nat.add_zero] at this
      rw [this]; rfl
    have hk3 : Keeps K m M := by rw [hM]; exact hk2.trans (Keeps.ext _ _ _)
    have hs3 : m.size ≤ M.size := by rw [hM, ext_size]; omega
    have hp3 : PAt K M p st := by rw [hM]; exact hp2.ext _
    clear hM
    obtain ⟨hKp, sp, V, hgp, hst⟩ := id hp3
    have l4 : ((4 : Nat) : Int) = 4 := rfl
    have hput : ∀ x0 x1 x2 x3 : Int, putIn 5 M p 0 [.int .i64 x0, .int .i64 x1, .int .i64 x2, .int .i64 x3, .slice none 0 0] (M.get p) = some (M.set p (some (.cells false sp [.int .i64 x0, .int .i64 x1, .int .i64 x2, .int .i64 x3, .slice none 0 0, .int .i64 st.n]))) := fun x0 x1 x2 x3 => by rw [hgp]; rfl
    simp only [sPhB, Nat.reduceSub, zZ, reduceIte, Nat.reduceLT, Int.reduceToNat, Int.reduceLE, Int.reduceEq, Int.reduceLT, Nat.reduceEqDiff, Nat.reduceAdd, zTy]
    refine CW_seq (CW_seq (CW_region ?_))
    simp only [zZ, reduceIte, Nat.reduceLT, Int.reduceToNat, Int.reduceLE, Int.reduceEq, Int.reduceLT, Nat.reduceEqDiff, Nat.reduceAdd, zTy]
    refine CW_cond true (by rfl) (fun _ => CW_draw hmix 15 (by kernel_rfl) (by kernel_rfl) ?_) (fun h => by cases h)
    simp only [zZ, reduceIte, Nat.reduceLT, Int.reduceToNat, Int.reduceLE, Int.reduceEq, Int.reduceLT, Nat.reduceEqDiff, Nat.reduceAdd, zTy, l4, hge, build_fair, build_scr, hput]
    refine CW_seq (CW_region ?_)
    simp only [zZ, reduceIte, Nat.reduceLT, Int.reduceToNat, Int.reduceLE, Int.reduceEq, Int.reduceLT, Nat.reduceEqDiff, Nat.reduceAdd, zTy]
    refine CW_ret ?_
    simp only [zZ, reduceIte, Nat.reduceLT, Int.reduceToNat, Int.reduceLE, Int.reduceEq, Int.reduceLT, Nat.reduceEqDiff, Nat.reduceAdd, zTy, mEnd, sAnswer, sAnswer.sRes]
    refine ⟨_, Thin.refl _, hk3.trans (Keeps.set hKp hgp _), by rw [Mem.size_set]; omega, ?_⟩
    rw [hR1]
    exact ⟨rfl, hKp, sp, _, Mem.get_set_same hgp _, fun q hq => by simp at hq, .inl ⟨rfl, rfl⟩⟩
end Go.Proofs.YthcleiegefhmdaaDoor
namespace Go.Proofs.YthcleiegefhmdaaDoor
open Go.RowKit Abs
def fileOf (w : List UInt8) : Option FileL :=
  if (cut1 58 w []).2.2 = true ∧ (unhexV (cut1 58 w []).1).2 = true ∧ (unhexV (cut1 58 w []).2.1).2 = true then some ((unhexV (cut1 58 w []).1).1, (unhexV (cut1 58 w []).2.1).1) else none
def filesOf : List (List UInt8) → Option (List FileL)
  | [] => some []
  | w :: r => match fileOf w with
    | none => none
    | some f => (filesOf r).map (f :: ·)
def packOf (ws : List (List UInt8)) : Option (StepL × Nat) := match filesOf ws with
  | none => none
  | some fs => if checkV fs = 0 then some (⟨0, 0, fs, [], false, 0, 0⟩, 1) else none
theorem unhexL_len : ∀ (l q : List UInt8), unhexL l = some q → q.length ≤ l.length
  | [], q, h => by simp [unhexL] at h; subst h; simp
  | [_], q, h => by cases h
  | a :: b :: r, q, h => by
    rw [unhexL] at h
    split at h
    · cases h
    · split at h
      · rename_i q' h'
        cases h
        have := unhexL_len r q' h'
        simp; omega
      · cases h
theorem unhexV_len (l : List UInt8) : (unhexV l).1.length ≤ l.length := by
  unfold unhexV
  split
  · simp
  · split
    · simp
    · split
      · rename_i q h; exact unhexL_len l q h
      · simp
theorem cut1_len (c : UInt8) : ∀ (l cur : List UInt8), (cut1 c l cur).1.length ≤ l.length + cur.length ∧ (cut1 c l cur).2.1.length ≤ l.length
  | [], cur => by simp [cut1]
  | b :: r, cur => by
    rw [cut1]
    split
    · simp
    · have := cut1_len c r (cur ++ [b])
      simp only [List.length_append, List.length_cons, List.length_nil] at this ⊢
      omega
theorem fileOf_len {w : List UInt8} {f : FileL} (h : fileOf w = some f) : f.1.length ≤ w.length ∧ f.2.length ≤ w.length := by
  unfold fileOf at h
  split at h
  · cases h
    have h1 := unhexV_len (cut1 58 w []).1
    have h2 := unhexV_len (cut1 58 w []).2.1
    have h3 := cut1_len 58 w []
    simp only [List.length_nil] at h3
    simp only
    omega
  · cases h
theorem filesOf_mem : ∀ {ws : List (List UInt8)} {fs : List FileL}, filesOf ws = some fs → fs.length = ws.length ∧ ∀ f ∈ fs, ∃ w ∈ ws, fileOf w = some f
  | [], fs, h => by cases h; exact ⟨rfl, fun f hf => by simp at hf⟩
  | w :: r, fs, h => by
    rw [filesOf] at h
    split at h
    · cases h
    · rename_i f hf
      rw [Option.map_eq_some_iff] at h
      obtain ⟨q, h1, rfl⟩ := h
      obtain ⟨h2, h3⟩ := filesOf_mem h1
      refine ⟨by simp [h2], fun g hg => ?_⟩
      rcases List.mem_cons.1 hg with rfl | hg
      · exact ⟨w, by simp, hf⟩
      · obtain ⟨x, hx, hy⟩ := h3 g hg
        exact ⟨x, by simp [hx], hy⟩
theorem File_zero : Tryd.t43.zero = some (.agg #[.string ⟨#[]⟩, .string ⟨#[]⟩]) := rfl
theorem File_bytes : Tryd.t43.bytes = 32 := rfl
theorem build_file (a b : ByteArray) : aBuild Tryd.prog 43 [(0, .string a), (1, .string b)] = some (.agg #[.string a, .string b]) := by kernel_rfl
theorem new_file1 (a b : ByteArray) : nBuildSlice Tryd.prog 37 1 [(0, .agg #[.string a, .string b])] = some (.cells false 2 [.string a, .string b]) := by kernel_rfl
def FilesOwn (k : Nat) (M : Mem) (V : Value) (fs : List FileL) : Prop := (fs = [] ∧ V = .slice none 0 0) ∨ (fs ≠ [] ∧ ∃ h, k < h ∧ V = .slice (some ⟨h, 0, none⟩) fs.length fs.length ∧ M.get h = some (.cells false 2 (fs.flatMap fileC)))
theorem fapp {k : Nat} {M : Mem} {V : Value} {fs : List FileL} (h : FilesOwn k M V fs) (hk : k < M.size) (hl : fs.length ≤ 1000000) (f : FileL) :
    ∃ M', aAppend Tryd.prog (M.push (.cells false 2 [.string (str f.1), .string (str f.2)])) 37 37 V (.slice (some ⟨M.size, 0, none⟩) 1 1) = some (.slice (some ⟨M.size + 1, 0, none⟩) (fs.length + 1) (fs.length + 1), M') ∧
      M'.size = M.size + 2 ∧ M'.get (M.size + 1) = some (.cells false 2 ((fs ++ [f]).flatMap fileC)) ∧ (∀ b x, b ≤ k → M.get b = some x → M'.get b = some x) := by
  have hsrc := src_block (m := M.push (.cells false 2 [.string (str f.1), .string (str f.2)])) (c := 1) (k := 1) (N := 2) (news := [.string (str f.1), .string (str f.2)]) (ro := false) (s := 2) Tryd.underlying37 (Mem.get_push_new M _) rfl
  rcases h with ⟨rfl, rfl⟩ | ⟨h0, g, hg1, rfl, hg⟩
  · have ha := gapp_nil (N := 2) (k := 1) (news := [.string (str f.1), .string (str f.2)]) Tryd.underlying37 inf_File File_zero sz_File rfl (M.push (.cells false 2 [.string (str f.1), .string (str f.2)])) hsrc (by decide) (by rw [File_bytes]; decide) (by decide)
    rw [Mem.size_push] at ha
    refine ⟨_, ha, by simp only [Mem.size_push], ?_, fun b x hb hx => ?_⟩
    · have := Mem.get_push_new (M.push (.cells false 2 [.string (str f.1), .string (str f.2)])) (.cells false 2 [.string (str f.1), .string (str f.2)])
      rw [Mem.size_push] at this
      exact this
    · have := get_live hx
      rw [Mem.get_push_old (by rw [Mem.size_push]; omega), Mem.get_push_old this]; exact hx
  · have hgl := get_live hg
    have ha := gapp (N := 2) (k := 1) (n := fs.length) (cs := fs.flatMap fileC) (news := [.string (str f.1), .string (str f.2)]) Tryd.underlying37 inf_File File_zero sz_File rfl (M.push (.cells false 2 [.string (str f.1), .string (str f.2)])) hsrc (by decide)
      (by rw [Mem.get_push_old hgl]; exact hg) (fileC_all fs) (by rw [File_bytes]; omega) (by omega)
    rw [Mem.size_push] at ha
    refine ⟨_, ha, by simp only [Mem.size_push, Mem.size_set], ?_, fun b x hb hx => ?_⟩
    · have := Mem.get_push_new ((M.push (.cells false 2 [.string (str f.1), .string (str f.2)])).set g none) (.cells false 2 (fs.flatMap fileC ++ [.string (str f.1), .string (str f.2)]))
      rw [Mem.size_set, Mem.size_push] at this
      rw [this, List.flatMap_append]; rfl
    · have := get_live hx
      rw [Mem.get_push_old (by rw [Mem.size_set, Mem.size_push]; omega), Mem.get_set_ne (by omega), Mem.get_push_old this]; exact hx
set_option maxRecDepth 100000 in
set_option maxHeartbeats 2000000 in
theorem pack_spec (hpath : PathOk) (K p : Nat) (st : PState) (ws : List (List UInt8)) (g o n c : Nat) (all : List Value) (m : Mem) (hp : PAt K m p st) (hK : K ≤ m.size) (hlen : st.steps.length ≤ 4096) (hg : m.get g = some (.cells true 1 all)) (ha : ∀ i w, ws[i]? = some w → all[o + i]? = some (.string (str w)))
    (hn : ws.length = n) (hs : ∀ w ∈ ws, w.length ≤ 900000) (hn2 : n ≤ 900000) :
    Abs.Spec Tryd.prog 34 [.pointer (some ⟨p, 0, none⟩), .slice (some ⟨g, o, none⟩) n c] m (Added K m p st (packOf ws)) := by
  refine Abs.Spec.walkM Tryd.func34 (by rfl) _ Tryd.results34 _ Tryd.ntmps34 (by simp) ?_
  intro hc hx k
  obtain ⟨R, hR⟩ : ∃ R, R = packOf ws := ⟨_, rfl⟩
  rw [← hR]
  have grow : ∀ M, (∀ b x, b ≤ m.size → m.get b = some x → M.get b = some x) → Keeps K m M ∧ PAt K M p st ∧ M.get g = some (.cells true 1 all) := fun M h => ⟨⟨fun b x _ hx => h b x (by have := get_live hx; omega) hx, fun b s cs hx => h b _ (by have := get_live hx; omega) hx⟩, hp.same fun b x hx => h b x (by have := get_live hx; omega) hx, h g _ (by have := get_live hg; omega) hg⟩
  have no : ∀ M, R = none → (∀ b x, b ≤ m.size → m.get b = some x → M.get b = some x) → m.size ≤ M.size → ∃ m', Thin M m' ∧ Added K m p st R (.bool false) m' := fun M h h1 h2 => ⟨M, Thin.refl _, by rw [h]; exact Added.no (grow M h1).2.1 (grow M h1).1 h2⟩
  have hal := al_Step
  generalize aStride Tryd.prog 41 = s1 at hal
  have hbs := build_step1 0
  simp only [stepC, stepK] at hbs
  have hbs2 : aBuild Tryd.prog 41 [(0, .int .i64 0)] = some (.agg #[.int .i64 0, .int .i64 0, .slice none 0 0, .string ⟨#[]⟩, .bool false, .int .i64 0, .int .i64 0]) := hbs
  refine CW_seq (CW_region ?_)
  simp only [zZ, reduceIte, Nat.reduceLT, Int.reduceToNat, Int.reduceLE, Int.reduceEq, Int.reduceLT, Nat.reduceEqDiff, Nat.reduceAdd, zTy]
  refine CW_seq (CW_region ?_)
  simp only [zZ, reduceIte, Nat.reduceLT, Int.reduceToNat, Int.reduceLE, Int.reduceEq, Int.reduceLT, Nat.reduceEqDiff, Nat.reduceAdd, zTy, hbs2, hal, Mem.get_push_new, push_set]
  refine CW_seq (CW_seq (CW_region ?_))
  simp only [zZ, reduceIte, Nat.reduceLT, Int.reduceToNat, Int.reduceLE, Int.reduceEq, Int.reduceLT, Nat.reduceEqDiff, Nat.reduceAdd, zTy]
  refine CW_block (MW_loop (fun j f M => ∃ (t : Nat) (fs : List FileL) (V : Value), t + j = n ∧ fs.length = t ∧ filesOf ws = (filesOf (ws.drop t)).map (fs ++ ·) ∧ f = [(0, .pointer (some ⟨p, 0, none⟩)), (5, .pointer (some ⟨m.size, 0, none⟩)), (16, .slice (some ⟨g, o, none⟩) n c), (17, .int .i64 (n : Nat)), (18, .int .i64 (t : Nat))] ∧
    (∀ b x, b ≤ m.size → m.get b = some x → M.get b = some x) ∧ m.size < M.size ∧ M.get m.size = some (.cells false s1 [.int .i64 0, .int .i64 0, V, .string ⟨#[]⟩, .bool false, .int .i64 0, .int .i64 0]) ∧ FilesOwn m.size M V fs) n ?_ ?_)
  · refine ⟨[0, 5, 16, 17, 18], ?_⟩
    simp only [zZ, reduceIte, Nat.reduceLT, Int.reduceToNat, Int.reduceLE, Int.reduceEq, Int.reduceLT, Nat.reduceEqDiff, Nat.reduceAdd, keepF]
    exact ⟨_, Thin.refl _, 0, [], _, by omega, rfl, by simp, rfl, fun b x _ hx => by rw [Mem.get_push_old (get_live hx)]; exact hx, by rw [Mem.size_push]; omega, Mem.get_push_new m _, .inl ⟨rfl, rfl⟩⟩
  · rintro j f M ⟨t, fs, V, htj, hft, hun, rfl, hold, hms, hbx, hfo⟩
    obtain ⟨hkM, hpM, hgM⟩ := grow M hold
    refine CW_seq (CW_region ?_)
    simp only [zZ, reduceIte, Nat.reduceLT, Int.reduceToNat, Int.reduceLE, Int.reduceEq, Int.reduceLT, Nat.reduceEqDiff, Nat.reduceAdd, zTy]
    refine CW_seq (CW_cond (decide ((t : Int) < (n : Int))) (by rfl) (fun h => CW_skip ?_) (fun h => CW_exit ?_))
    · simp only [zZ, reduceIte, Nat.reduceLT, Int.reduceToNat, Int.reduceLE, Int.reduceEq, Int.reduceLT, Nat.reduceEqDiff, Nat.reduceAdd]
      have htl : t < n := by have := of_decide_eq_true h; omega
      have h0 : (0 : Int) ≤ (t : Int) := by omega
      have h1 : (t : Int) < (n : Int) := by omega
      obtain ⟨w, hw⟩ : ∃ w, ws[t]? = some w := ⟨_, List.getElem?_eq_getElem (by omega)⟩
      have aw := ha t w hw
      have hws := hs w (List.mem_of_getElem? hw)
      have dw := drop_get hw
      have hxi : IntKind.i64.wrap ((t : Int) + 1) = ((t + 1 : Nat) : Int) := by rw [wr (by omega) (by omega)]; omega
      have hl1 := cut1_len 58 w []
      simp only [List.length_nil] at hl1
      refine CW_seq (CW_block (CW_seq (CW_region ?_)))
      simp only [zZ, reduceIte, Nat.reduceLT, Int.reduceToNat, Int.reduceLE, Int.reduceEq, Int.reduceLT, Nat.reduceEqDiff, Nat.reduceAdd, zTy, h0, h1, and_self, hgM, aw]
      refine CW_seq (CW_region ?_)
      simp only [zZ, reduceIte, Nat.reduceLT, Int.reduceToNat, Int.reduceLE, Int.reduceEq, Int.reduceLT, Nat.reduceEqDiff, Nat.reduceAdd, zTy]
      refine ⟨by kernel_rfl, _, cut_spec (str w) 58 (by rw [Go.Proofs.YthcleiegefhmdaaDoor.str_size]; omega) _, ?_⟩
      rintro _ M9 ⟨rfl, e9⟩
      replace e9 := e9.symm
      subst e9
      simp only [zZ, reduceIte, Nat.reduceLT, Int.reduceToNat, Int.reduceLE, Int.reduceEq, Int.reduceLT, Nat.reduceEqDiff, Nat.reduceAdd, zTy, str_data, cut_eq]
      obtain ⟨c1, c2, c3, hcut⟩ : ∃ c1 c2 c3, cut1 58 w [] = (c1, c2, c3) := ⟨_, _, _, rfl⟩
      rw [hcut] at hl1 ⊢
      simp only at hl1 ⊢
      refine CW_seq (CW_region ?_)
      simp only [zZ, reduceIte, Nat.reduceLT, Int.reduceToNat, Int.reduceLE, Int.reduceEq, Int.reduceLT, Nat.reduceEqDiff, Nat.reduceAdd, zTy]
      refine ⟨by kernel_rfl, _, unhex_spec (str c1) (by rw [Go.Proofs.YthcleiegefhmdaaDoor.str_size]; omega) _, ?_⟩
      rintro _ M9 ⟨rfl, e9⟩
      replace e9 := e9.symm
      subst e9
      simp only [zZ, reduceIte, Nat.reduceLT, Int.reduceToNat, Int.reduceLE, Int.reduceEq, Int.reduceLT, Nat.reduceEqDiff, Nat.reduceAdd, zTy, str_data]
      refine CW_seq (CW_region ?_)
      simp only [zZ, reduceIte, Nat.reduceLT, Int.reduceToNat, Int.reduceLE, Int.reduceEq, Int.reduceLT, Nat.reduceEqDiff, Nat.reduceAdd, zTy]
      refine ⟨by kernel_rfl, _, unhex_spec (str c2) (by rw [Go.Proofs.YthcleiegefhmdaaDoor.str_size]; omega) _, ?_⟩
      rintro _ M9 ⟨rfl, e9⟩
      replace e9 := e9.symm
      subst e9
      simp only [zZ, reduceIte, Nat.reduceLT, Int.reduceToNat, Int.reduceLE, Int.reduceEq, Int.reduceLT, Nat.reduceEqDiff, Nat.reduceAdd, zTy, str_data]
      have hfile : fileOf w = if c3 = true ∧ (unhexV c1).2 = true ∧ (unhexV c2).2 = true then some ((unhexV c1).1, (unhexV c2).1) else none := by unfold fileOf; rw [hcut]
      obtain ⟨u1, o1, hu1⟩ : ∃ u1 o1, unhexV c1 = (u1, o1) := ⟨_, _, rfl⟩
      obtain ⟨u2, o2, hu2⟩ : ∃ u2 o2, unhexV c2 = (u2, o2) := ⟨_, _, rfl⟩
      rw [hu1, hu2] at hfile ⊢
      simp only at hfile ⊢
      refine CW_seq (CW_seq (CW_region ?_))
      cases c3 <;> cases o1 <;> cases o2 <;> simp only [zZ, reduceIte, Nat.reduceLT, Int.reduceToNat, Int.reduceLE, Int.reduceEq, Int.reduceLT, Nat.reduceEqDiff, Nat.reduceAdd, zTy]
      case' true.true.true =>
        have hfile : fileOf w = some (u1, u2) := hfile
        refine CW_cond false (by rfl) (fun h => by cases h) (fun _ => CW_skip ?_)
        simp only [zZ, reduceIte, Nat.reduceLT, Int.reduceToNat, Int.reduceLE, Int.reduceEq, Int.reduceLT, Nat.reduceEqDiff, Nat.reduceAdd]
        refine CW_region ?_
        obtain ⟨M', ha1, hs1, hg1, hold1⟩ := fapp hfo hms (by omega) (u1, u2)
        simp only at ha1
        have hbx1 := hold1 m.size _ (Nat.le_refl _) hbx
        simp only [zZ, reduceIte, Nat.reduceLT, Int.reduceToNat, Int.reduceLE, Int.reduceEq, Int.reduceLT, Nat.reduceEqDiff, Nat.reduceAdd, zTy, hbx, build_file, new_file1, ha1, hbx1]
        refine CW_region ?_
        simp only [zZ, reduceIte, Nat.reduceLT, Int.reduceToNat, Int.reduceLE, Int.reduceEq, Int.reduceLT, Nat.reduceEqDiff, Nat.reduceAdd, zTy, hxi]
        refine ⟨[0, 5, 16, 17, 18], ?_⟩
        simp only [zZ, reduceIte, Nat.reduceLT, Int.reduceToNat, Int.reduceLE, Int.reduceEq, Int.reduceLT, Nat.reduceEqDiff, Nat.reduceAdd, keepF]
        refine ⟨_, Thin.refl _, j - 1, ⟨t + 1, fs ++ [(u1, u2)], _, by omega, by simp [hft], ?_, rfl, fun b x hb hx => ?_, by rw [Mem.size_set]; omega, Mem.get_set_same hbx1 _, .inr ⟨by simp, M.size + 1, by omega, by simp, ?_⟩⟩, by omega⟩
        · rw [hun, dw, filesOf, hfile, Option.map_map]
          cases filesOf (ws.drop (t + 1)) <;> simp
        · have := get_live hx
          rw [Mem.get_set_ne (by omega)]
          exact hold1 b x hb (hold b x hb hx)
        · rw [Mem.get_set_ne (by omega)]; exact hg1
      all_goals
        refine CW_cond true (by rfl) (fun _ => CW_seq (CW_region ?_)) (fun h => by cases h)
        simp only [zZ, reduceIte, Nat.reduceLT, Int.reduceToNat, Int.reduceLE, Int.reduceEq, Int.reduceLT, Nat.reduceEqDiff, Nat.reduceAdd, zTy]
        refine CW_ret ?_
        simp only [zZ, reduceIte, Nat.reduceLT, Int.reduceToNat, Int.reduceLE, Int.reduceEq, Int.reduceLT, Nat.reduceEqDiff, Nat.reduceAdd, zTy, mEnd, sAnswer, sAnswer.sRes]
        refine no M ?_ hold (by omega)
        have hfile : fileOf w = none := by rw [hfile]; rfl
        rw [hR, packOf, hun, dw, filesOf, hfile]; rfl
    · simp only [zZ, reduceIte, Nat.reduceLT, Int.reduceToNat, Int.reduceLE, Int.reduceEq, Int.reduceLT, Nat.reduceEqDiff, Nat.reduceAdd]
      have htl : t = n := by have := of_decide_eq_false h; omega
      have hdn : ws.drop t = [] := List.drop_eq_nil_of_le (by omega)
      rw [hdn, filesOf] at hun
      have hun : filesOf ws = some fs := by rw [hun]; simp
      have hR1 : R = if checkV fs = 0 then some (⟨0, 0, fs, [], false, 0, 0⟩, 1) else none := by rw [hR, packOf, hun]
      -- the files are not written any more
      obtain ⟨M1, hth, hold1, hms1, hbx1, hfa⟩ : ∃ M1, Thin M M1 ∧ (∀ b x, b ≤ m.size → m.get b = some x → M1.get b = some x) ∧ m.size < M1.size ∧ M1.get m.size = some (.cells false s1 [.int .i64 0, .int .i64 0, V, .string ⟨#[]⟩, .bool false, .int .i64 0, .int .i64 0]) ∧ FilesAt M1 V fs := by
        rcases hfo with ⟨rfl, rfl⟩ | ⟨hf0, h', hh, rfl, hgh⟩
        · exact ⟨M, Thin.refl _, hold, hms, hbx, FilesAt.nil M⟩
        · have hsz : (fz1 h' M).size = M.size := by unfold fz1; rw [hgh]; simp only [Mem.size_set]
          refine ⟨fz1 h' M, fz1_thin _ _, fun b x hb hx => by rw [fz1_ne (by omega)]; exact hold b x hb hx, by omega, by rw [fz1_ne (by omega)]; exact hbx, some ⟨h', 0, none⟩, fs.length, rfl, Nat.le_refl _, by unfold maxLen; omega, (fun e => by cases e), (fun q hq => by cases hq; exact ⟨h', rfl, fun _ => fz1_get hgh⟩)⟩
      refine CW_thin hth ?_
      obtain ⟨hkM1, hpM1, hgM1⟩ := grow M1 hold1
      obtain ⟨va, vc, hva, _⟩ := id hfa
      have hfm := filesOf_mem hun
      have hfl : ∀ f ∈ fs, f.1.length ≤ 1000000 := fun f hf => by
        obtain ⟨w, hw, he⟩ := hfm.2 f hf
        have := fileOf_len he
        have := hs w hw
        omega
      subst hva
      refine CW_seq (CW_region ?_)
      simp only [zZ, reduceIte, Nat.reduceLT, Int.reduceToNat, Int.reduceLE, Int.reduceEq, Int.reduceLT, Nat.reduceEqDiff, Nat.reduceAdd, zTy, hbx1]
      refine ⟨by kernel_rfl, _, fcheck_spec hpath fs va vc _ hfa.rd hfl (by omega), ?_⟩
      rintro _ M9 ⟨rfl, e9⟩
      replace e9 := e9.symm
      subst e9
      cases hz : (checkV fs == 0)
      · simp only [zZ, reduceIte, Nat.reduceLT, Int.reduceToNat, Int.reduceLE, Int.reduceEq, Int.reduceLT, Nat.reduceEqDiff, Nat.reduceAdd, zTy, hz]
        refine CW_ret ?_
        simp only [zZ, reduceIte, Nat.reduceLT, Int.reduceToNat, Int.reduceLE, Int.reduceEq, Int.reduceLT, Nat.reduceEqDiff, Nat.reduceAdd, zTy, mEnd, sAnswer, sAnswer.sRes]
        exact no _ (by rw [hR1, if_neg (by simpa using hz)]) hold1 (by omega)
      · have hadd := added_spec K p st ⟨0, 0, fs, [], false, 0, 0⟩ (.slice va fs.length vc) 1 1 rfl _ hpM1 (by omega) hfa hlen (by decide)
        simp only [zZ, reduceIte, Nat.reduceLT, Int.reduceToNat, Int.reduceLE, Int.reduceEq, Int.reduceLT, Nat.reduceEqDiff, Nat.reduceAdd, zTy, hz, hbx1]
        refine ⟨by kernel_rfl, _, hadd, ?_⟩
        rintro u M3 hA
        obtain ⟨bb, hbb⟩ := hA.bool
        subst hbb
        simp only [zZ, reduceIte, Nat.reduceLT, Int.reduceToNat, Int.reduceLE, Int.reduceEq, Int.reduceLT, Nat.reduceEqDiff, Nat.reduceAdd, zTy]
        refine CW_ret ?_
        simp only [zZ, reduceIte, Nat.reduceLT, Int.reduceToNat, Int.reduceLE, Int.reduceEq, Int.reduceLT, Nat.reduceEqDiff, Nat.reduceAdd, zTy, mEnd, sAnswer, sAnswer.sRes]
        refine ⟨M3, Thin.refl _, ?_⟩
        rw [hR1, if_pos (by simpa using hz)]
        exact hA.mono hkM1 (by omega)
end Go.Proofs.YthcleiegefhmdaaDoor
namespace Go.Proofs.YthcleiegefhmdaaDoor
open Go
theorem parse_app (l : List UInt8) : ∀ (k : List UInt8) (acc u : Nat), Lib.parseUint10 acc l = .ok u → Lib.parseUint10 acc (l ++ k) = Lib.parseUint10 u k := by
  induction l with
  | nil => intro k acc u h; simp only [Lib.parseUint10] at h; injection h with h; subst h; rfl
  | cons c r ih =>
    intro k acc u h
    simp only [Lib.parseUint10, List.cons_append] at h ⊢
    split at h
    · rename_i h1
      rw [if_pos h1]
      split at h
      · cases h
      · rename_i h2
        rw [if_neg h2]
        split at h
        · cases h
        · rename_i h3
          rw [if_neg h3]
          exact ih k _ u h
    · cases h
theorem dig_nat {d : Nat} (h : d < 10) : (UInt8.ofNat (48 + d)).toNat = 48 + d := by rw [UInt8.toNat_ofNat']; omega
theorem parse_dec (u : Nat) : u < 18446744073709551616 → Lib.parseUint10 0 (Lib.decDigits u) = .ok u := by
  induction u using Nat.strongRecOn with
  | _ u ih =>
    intro hu
    by_cases h : u < 10
    · rw [Lib.decDigits_one h]
      simp only [Lib.parseUint10, dig_nat h]
      rw [if_pos (by omega), if_neg (by omega), if_neg (by omega)]
      congr 1; omega
    · rw [Lib.decDigits, dif_neg h, parse_app _ _ _ _ (ih (u / 10) (by omega) (by omega))]
      simp only [Lib.parseUint10, dig_nat (Nat.mod_lt u (by decide : 10 > 0))]
      rw [if_pos (by omega), if_neg (by omega), if_neg (by omega)]
      congr 1; omega
theorem dec_ne (u : Nat) : Lib.decDigits u ≠ [] := by
  rw [Lib.decDigits]; split <;> simp
theorem dec_head (u : Nat) : ∃ (d : Nat) (r : List UInt8), d < 10 ∧ Lib.decDigits u = UInt8.ofNat (48 + d) :: r ∧ (u ≠ 0 → d ≠ 0) ∧ (u < 10 → r = []) := by
  induction u using Nat.strongRecOn with
  | _ u ih =>
    by_cases h : u < 10
    · exact ⟨u, [], h, by rw [Lib.decDigits_one h], fun h => h, fun _ => rfl⟩
    · obtain ⟨d, r, h1, h2, h3, _⟩ := ih (u / 10) (by omega)
      exact ⟨d, r ++ [UInt8.ofNat (48 + u % 10)], h1, by rw [Lib.decDigits, dif_neg h, h2]; rfl, fun _ => h3 (by omega), fun h' => absurd h' h⟩
theorem mag_dec {u : Nat} (h : u < 18446744073709551616) : Lib.parseMag (Lib.decDigits u) = .ok u := by
  unfold Lib.parseMag
  rw [if_neg (dec_ne u), parse_dec u h]
theorem atoi_itoa (v : Int) (h0 : -9223372036854775808 ≤ v) (h1 : v ≤ 9223372036854775807) : Lib.atoiAll (Lib.itoa v) = .ok v := by
  unfold Lib.itoa
  split
  · rename_i h
    rw [Lib.atoiAll_minus, mag_dec (by omega)]
    simp only [Lib.signed]
    rw [if_neg (by omega)]
    congr 1; omega
  · rename_i h
    obtain ⟨d, r, h2, h3, _, _⟩ := dec_head v.toNat
    have hm := mag_dec (u := v.toNat) (by omega)
    rw [h3] at hm ⊢
    rw [Lib.atoiAll_plain _ _ (by rw [dig_nat h2]; omega) (by rw [dig_nat h2]; omega), hm]
    simp only [Lib.signless]
    rw [if_neg (by omega)]
    congr 1; omega
theorem numP_iff (l : List UInt8) (least most v : Int) (h0 : -9223372036854775808 ≤ least) (h1 : most ≤ 9223372036854775807) : numP l least most = (v, true) ↔ l = Lib.itoa v ∧ least ≤ v ∧ v ≤ most := by
  constructor
  · intro h
    unfold numP at h
    split at h
    · rename_i u hu
      injection h with h2 h3
      subst h2
      simp only [Bool.and_eq_true, decide_eq_true_eq] at h3
      exact ⟨h3.1.1.symm, h3.1.2, h3.2⟩
    · cases h
    · cases h
  · rintro ⟨rfl, h2, h3⟩
    unfold numP
    rw [atoi_itoa v (by omega) (by omega)]
    simp only [decide_true, Bool.true_and, decide_eq_true h2, decide_eq_true h3]
theorem pow_digits : ∀ (u : Nat), 10 ^ ((Lib.decDigits u).length - 1) ≤ u ∨ u = 0 := by
  intro u
  rw [Lib.decDigits_length]
  induction u using Nat.strongRecOn with
  | _ u ih =>
    by_cases h : u < 10
    · rw [Lib.nDigits_small h]
      by_cases h0 : u = 0
      · exact .inr h0
      · exact .inl (by simp; omega)
    · rw [Lib.nDigits_big h]
      have := Lib.nDigits_pos (u / 10)
      rcases ih (u / 10) (by omega) with h' | h'
      · refine .inl ?_
        rw [show Lib.nDigits (u / 10) + 1 - 1 = (Lib.nDigits (u / 10) - 1) + 1 by omega, Nat.pow_succ]
        omega
      · omega
end Go.Proofs.YthcleiegefhmdaaDoor
namespace Go.Proofs.YthcleiegefhmdaaDoor
open Go.RowKit Abs
def wPack : List UInt8 := [112, 97, 99, 107]
def wTick : List UInt8 := [116, 105, 99, 107]
def wFuse : List UInt8 := [102, 117, 115, 101]
def wCrash : List UInt8 := [99, 114, 97, 115, 104]
def wInject : List UInt8 := [105, 110, 106, 101, 99, 116]
def wFate : List UInt8 := [102, 97, 116, 101]
def tickOf (r : List (List UInt8)) : Option (StepL × Nat) := match r with
  | [a] => (numQ a 1 1000).map fun n => (stepK 1 0, n.toNat)
  | _ => none
def stepOf (ws : List (List UInt8)) : Option (StepL × Nat) := match ws with
  | [] => none
  | w0 :: r => if w0 = wPack then packOf r else if w0 = wTick then tickOf r else if w0 = wFuse then sideOf r 2 3 else if w0 = wCrash then sideOf r 4 5 else if w0 = wInject then injectOf r else if w0 = wFate then fateOf r else none
abbrev PS := Int × Int × Int × Int × List StepL
def lineOf (first : Bool) (x : PS) (ws : List (List UInt8)) : Option PS :=
  if first = true then (firstOf ws).map fun y => (y.1, y.2.1, y.2.2.1, y.2.2.2, []) else (addS x.2.2.2.2 (stepOf ws)).map fun L => (x.1, x.2.1, x.2.2.1, x.2.2.2.1, L)
def psOf (st : PState) : PS := (st.a, st.b, st.c, st.d, stepsOf st)
def LineR (K : Nat) (m : Mem) (p : Nat) (st : PState) (r : Option PS) (u : Value) (M : Mem) : Prop :=
  Keeps K m M ∧ m.size ≤ M.size ∧ ∃ st', PAt K M p st' ∧ st'.n = st.n + 1 ∧ match r with
    | none => u = .bool false
    | some y => u = .bool true ∧ psOf st' = y
theorem pieces_mem (c : UInt8) : ∀ (l cur w : List UInt8), w ∈ pieces c l cur → w.length ≤ l.length + cur.length
  | [], cur, w, h => by simp [pieces] at h; subst h; simp
  | b :: r, cur, w, h => by
    rw [pieces] at h
    split at h
    · rcases List.mem_cons.1 h with rfl | h
      · simp only [List.length_cons]; omega
      · have := pieces_mem c r [] w h
        simp at this ⊢; omega
    · have := pieces_mem c r _ w h
      simp at this ⊢; omega
theorem pieces_ne (c : UInt8) (l cur : List UInt8) : 1 ≤ (pieces c l cur).length := by rw [pieces_len]; omega
theorem splitB_sC (s : List UInt8) (c : UInt8) : (Lib.splitB (str [c]) 0 (Lib.countB (str s) (str [c])) (str s)).map Value.string = sC (pieces c s []) := by
  have h := split_eq (str s) c
  rw [str_data] at h
  rw [← h]
  unfold sC
  rw [List.map_map]
  rfl
theorem split_words (s : List UInt8) (c : UInt8) (hs : s.length ≤ 1000000) (m : Mem) :
    Abs.Spec Tryd.prog 17 [.string (str s), .string (str [c])] m fun u M => u = .slice (some ⟨m.size, 0, none⟩) (pieces c s []).length (pieces c s []).length ∧ M = ext m [some (some (.cells false 1 (sC (pieces c s []))))] := by
  have h := split_spec (str s) c (by rw [Go.Proofs.YthcleiegefhmdaaDoor.str_size]; omega) m
  rw [splitB_sC] at h
  have hl : Lib.countB (str s) (str [c]) + 1 = (pieces c s []).length := by
    rw [pieces_len]
    exact congrArg (· + 1) (Lib.count_one c s)
  rw [hl] at h
  exact h
theorem nums_tick {r : List (List UInt8)} {x : Int} (hq : numsV r [(1, 1000)] = some [x]) : 1 ≤ x ∧ x ≤ 1000 := by
  match r with
  | [] => cases hq
  | [a] =>
    simp only [numsV] at hq
    split at hq
    · rename_i h1
      have h2 : (numP a 1 1000).1 = x := by simpa using hq
      have := (numP_iff a 1 1000 x (by omega) (by omega)).1 (by rw [← h2, ← h1])
      exact this.2
    · cases hq
  | a :: b :: r => rw [numsV_len _ _ (by simp)] at hq; cases hq
theorem new_twos1 (a b : Int) : nBuildSlice Tryd.prog 91 1 [(0, .agg #[.int .i64 a, .int .i64 b])] = some (.cells false 2 [.int .i64 a, .int .i64 b]) := by kernel_rfl
theorem Added.line {K : Nat} {m M : Mem} {p : Nat} {st0 st : PState} {ws : List (List UInt8)} {u : Value} (hA : Added K m p st (stepOf ws) u M) (hn : st.n = st0.n + 1) (hps : psOf st = psOf st0) : LineR K m p st0 (lineOf false (psOf st0) ws) u M := by
  obtain ⟨h1, h2, st', h3, h4, h5⟩ := hA
  refine ⟨h1, h2, st', h3, by rw [h4, hn], ?_⟩
  rw [← hps]
  unfold lineOf
  rw [if_neg (by decide)]
  have e : (psOf st).2.2.2.2 = stepsOf st := rfl
  rw [e]
  cases hz : addS (stepsOf st) (stepOf ws) with
  | none => rw [hz] at h5; exact h5
  | some L =>
    rw [hz] at h5
    obtain ⟨g1, g2, g3, g4, g5, g6⟩ := h5
    refine ⟨g1, ?_⟩
    unfold psOf
    rw [g2, g3, g4, g5, g6]
set_option maxRecDepth 100000 in
set_option maxHeartbeats 4000000 in
theorem line_spec (hpath : PathOk) (K p : Nat) (st : PState) (s : List UInt8) (m : Mem) (hp : PAt K m p st) (hK : K ≤ m.size) (hlen : st.steps.length ≤ 4096) (hs : s.length ≤ 800000) (hn0 : 0 ≤ st.n) (hn1 : st.n ≤ 1000000) :
    Abs.Spec Tryd.prog 18 [.pointer (some ⟨p, 0, none⟩), .string (str s)] m (LineR K m p st (lineOf (decide (st.n = 0)) (psOf st) (pieces 32 s []))) := by
  refine Abs.Spec.walkM Tryd.func18 (by rfl) _ Tryd.results18 _ Tryd.ntmps18 (by simp) ?_
  intro hc hx k
  have hwl : ∀ w ∈ pieces 32 s [], w.length ≤ 800000 := fun w hw => by have := pieces_mem 32 s [] w hw; simp at this; omega
  have hwn : (pieces 32 s []).length ≤ 800001 := by rw [pieces_len]; have := List.count_le_length (l := s) (a := 32); omega
  have hwn1 := pieces_ne 32 s []
  have hsplit := split_words s 32 (by omega) m
  generalize pieces 32 s [] = ws at hwl hwn hwn1 hsplit
  refine CW_seq (CW_region ?_)
  simp only [zZ, reduceIte, Nat.reduceLT, Int.reduceToNat, Int.reduceLE, Int.reduceEq, Int.reduceLT, Nat.reduceEqDiff, Nat.reduceAdd, zTy]
  refine CW_seq (CW_region ?_)
  simp only [zZ, reduceIte, Nat.reduceLT, Int.reduceToNat, Int.reduceLE, Int.reduceEq, Int.reduceLT, Nat.reduceEqDiff, Nat.reduceAdd, zTy]
  refine ⟨by kernel_rfl, _, hsplit, ?_⟩
  rintro _ M9 ⟨rfl, hM9⟩
  simp only [zZ, reduceIte, Nat.reduceLT, Int.reduceToNat, Int.reduceLE, Int.reduceEq, Int.reduceLT, Nat.reduceEqDiff, Nat.reduceAdd, zTy]
  -- the words are not written any more
  obtain ⟨n, hn⟩ : ∃ n, ws.length = n := ⟨_, rfl⟩
  rw [hn] at hwn hwn1 ⊢
  have hg9 : M9.get m.size = some (.cells false 1 (sC ws)) := by
    rw [hM9]
    have := ext_get m [some (some (.cells false 1 (sC ws)))] 0
    rw [Nat.add_zero] at this
    rw [this]; rfl
  have hs9 : M9.size = m.size + 1 := by rw [hM9, ext_size]; rfl
  have hold9 : ∀ b x, m.get b = some x → (fz1 m.size M9).get b = some x := fun b x hb => by
    rw [fz1_ne (by have := get_live hb; omega), hM9]; exact ext_get_old _ hb
  refine CW_thin (fz1_thin m.size M9) ?_
  have hg0 := fz1_get hg9
  have hs0 : (fz1 m.size M9).size = m.size + 1 := by unfold fz1; rw [hg9]; simp only [Mem.size_set, hs9]
  obtain ⟨M0, hM0⟩ : ∃ M0, M0 = fz1 m.size M9 := ⟨_, rfl⟩
  rw [← hM0] at hg0 hs0 hold9 ⊢
  clear hM0 hg9 hs9 hM9
  have hk0 : Keeps K m M0 := ⟨fun b x _ h => hold9 b x h, fun b s cs h => hold9 b _ h⟩
  have hp0 : PAt K M0 p st := hp.same hold9
  obtain ⟨hKp, sp, V, hgp, hst⟩ := id hp0
  have hxi : IntKind.i64.wrap (st.n + 1) = st.n + 1 := wr (by omega) (by omega)
  have hput : putIn 1 M0 p 5 [.int .i64 (st.n + 1)] (M0.get p) = some (M0.set p (some (.cells false sp [.int .i64 st.a, .int .i64 st.b, .int .i64 st.c, .int .i64 st.d, V, .int .i64 (st.n + 1)]))) := by rw [hgp]; rfl
  refine CW_seq (CW_seq (CW_region ?_))
  simp only [zZ, reduceIte, Nat.reduceLT, Int.reduceToNat, Int.reduceLE, Int.reduceEq, Int.reduceLT, Nat.reduceEqDiff, Nat.reduceAdd, zTy, hgp, hxi]
  obtain ⟨M1, hM1⟩ : ∃ M1, M1 = M0.set p (some (.cells false sp [.int .i64 st.a, .int .i64 st.b, .int .i64 st.c, .int .i64 st.d, V, .int .i64 (st.n + 1)])) := ⟨_, rfl⟩
  have hpm : p ≠ m.size := by
    obtain ⟨_, _, _, h, _⟩ := hp
    have := get_live h; omega
  have hg1 : M1.get m.size = some (.cells true 1 (sC ws)) := by rw [hM1, Mem.get_set_ne hpm]; exact hg0
  have hgp1 : M1.get p = some (.cells false sp [.int .i64 st.a, .int .i64 st.b, .int .i64 st.c, .int .i64 st.d, V, .int .i64 (st.n + 1)]) := by rw [hM1]; exact Mem.get_set_same hgp _
  have hk1 : Keeps K m M1 := by rw [hM1]; exact hk0.trans (Keeps.set hKp hgp _)
  have hs1 : M1.size = m.size + 1 := by rw [hM1, Mem.size_set, hs0]
  obtain ⟨st1, hst1⟩ : ∃ st1 : PState, st1 = { st with n := st.n + 1 } := ⟨_, rfl⟩
  have hp1 : PAt K M1 p st1 := by
    rw [hst1]
    refine ⟨hKp, sp, V, hgp1, fun q hq => (Keeps.set (k := K) hKp hgp _).files (hst.1 q hq) |> fun h => by rw [hM1]; exact h, ?_⟩
    rcases hst.2 with h4 | ⟨h5, g, h6, h7, h8, h9⟩
    · exact .inl h4
    · exact .inr ⟨h5, g, h6, h7, h8, by rw [hM1, Mem.get_set_ne (Ne.symm h7)]; exact h9⟩
  rw [← hM1]
  clear hM1 hput
  have hlen1 : st1.steps.length ≤ 4096 := by rw [hst1]; exact hlen
  have hps1 : psOf st1 = psOf st := by rw [hst1]; rfl
  have hst1n : st1.n = st.n + 1 := by rw [hst1]
  have words : ∀ i w, (ws.tail)[i]? = some w → (sC ws)[1 + i]? = some (.string (str w)) := fun i w hi => by
    cases ws with
    | nil => simp at hi
    | cons a r => rw [Nat.add_comm]; exact get_str r i w hi
  have htl : (ws.tail).length = n - 1 := by rw [List.length_tail, hn]
  have hwt : ∀ w ∈ ws.tail, w.length ≤ 800000 := fun w hw => hwl w (List.mem_of_mem_tail hw)
  refine CW_seq (CW_region ?_)
  simp only [zZ, reduceIte, Nat.reduceLT, Int.reduceToNat, Int.reduceLE, Int.reduceEq, Int.reduceLT, Nat.reduceEqDiff, Nat.reduceAdd, zTy, hgp1]
  refine CW_cond ((st.n + 1 : Int) == 1) (by rfl) (fun h => CW_seq (CW_region ?_)) (fun h => CW_skip ?_)
  · simp only [zZ, reduceIte, Nat.reduceLT, Int.reduceToNat, Int.reduceLE, Int.reduceEq, Int.reduceLT, Nat.reduceEqDiff, Nat.reduceAdd, zTy]
    refine ⟨by kernel_rfl, _, first_spec K p st1 ws m.size n M1 hp1 hg1 hn hwn1 (fun w hw => by have := hwl w hw; omega), ?_⟩
    rintro u M ⟨h1, h2, h3⟩
    have hz : st.n = 0 := by rw [beq_iff_eq] at h; omega
    rw [hz]
    have hub : ∃ bb, u = .bool bb := by
      revert h3; split
      · exact fun h => ⟨_, h.1⟩
      · exact fun h => ⟨_, h.1⟩
    obtain ⟨bb, hbb⟩ := hub
    subst hbb
    simp only [zZ, reduceIte, Nat.reduceLT, Int.reduceToNat, Int.reduceLE, Int.reduceEq, Int.reduceLT, Nat.reduceEqDiff, Nat.reduceAdd, zTy]
    refine CW_ret ?_
    simp only [zZ, reduceIte, Nat.reduceLT, Int.reduceToNat, Int.reduceLE, Int.reduceEq, Int.reduceLT, Nat.reduceEqDiff, Nat.reduceAdd, zTy, mEnd, sAnswer, sAnswer.sRes]
    refine ⟨M, Thin.refl _, hk1.trans h1, by omega, ?_⟩
    rw [show decide True = true from rfl]
    unfold lineOf
    rw [if_pos rfl]
    cases hf : firstOf ws with
    | none =>
      rw [hf] at h3
      exact ⟨st1, h3.2, hst1n, h3.1⟩
    | some y =>
      obtain ⟨a, b, c, d⟩ := y
      rw [hf] at h3
      exact ⟨_, h3.2, hst1n, h3.1, rfl⟩
  have hz : ¬ st.n = 0 := by rw [beq_eq_false_iff_ne] at h; omega
  rw [decide_eq_false hz]
  obtain ⟨w0, r, rfl⟩ : ∃ w0 r, ws = w0 :: r := by
    cases ws with
    | nil => simp at hn; omega
    | cons w0 r => exact ⟨w0, r, rfl⟩
  simp only [List.tail_cons] at words htl hwt
  have line : ∀ (u : Value) (M : Mem), Added K M1 p st1 (stepOf (w0 :: r)) u M → ∃ m', Thin M m' ∧ LineR K m p st (lineOf false (psOf st) (w0 :: r)) u m' := fun u M hA => ⟨M, Thin.refl _, (hA.mono hk1 (by omega)).line hst1n hps1⟩
  have hget0 : (sC (w0 :: r))[0]? = some (.string (str w0)) := rfl
  have h1n : (0 : Int) < (n : Int) := by omega
  have hsl := fun (get : Nat → Option Blk) (h : get m.size = some (.cells true 1 (sC (w0 :: r)))) => slice_words h hwn1
  have e0 : beqB (str w0) ⟨#[112, 97, 99, 107]⟩ = decide (w0 = wPack) := beqB_str w0 _
  have e1 : beqB (str w0) ⟨#[116, 105, 99, 107]⟩ = decide (w0 = wTick) := beqB_str w0 _
  have e2 : beqB (str w0) ⟨#[102, 117, 115, 101]⟩ = decide (w0 = wFuse) := beqB_str w0 _
  have e3 : beqB (str w0) ⟨#[99, 114, 97, 115, 104]⟩ = decide (w0 = wCrash) := beqB_str w0 _
  have e4 : beqB (str w0) ⟨#[105, 110, 106, 101, 99, 116]⟩ = decide (w0 = wInject) := beqB_str w0 _
  have e5 : beqB (str w0) ⟨#[102, 97, 116, 101]⟩ = decide (w0 = wFate) := beqB_str w0 _
  have hso : ∀ z, stepOf (w0 :: r) = z → stepOf (w0 :: r) = z := fun z h => h
  simp only [zZ, reduceIte, Nat.reduceLT, Int.reduceToNat, Int.reduceLE, Int.reduceEq, Int.reduceLT, Nat.reduceEqDiff, Nat.reduceAdd]
  refine CW_seq (CW_seq (CW_region ?_))
  simp only [zZ, reduceIte, Nat.reduceLT, Int.reduceToNat, Int.reduceLE, Int.reduceEq, Int.reduceLT, Nat.reduceEqDiff, Nat.reduceAdd, zTy, h1n, hg1, hget0]
  refine CW_block (CW_seq (CW_region ?_))
  simp only [zZ, reduceIte, Nat.reduceLT, Int.reduceToNat, Int.reduceLE, Int.reduceEq, Int.reduceLT, Nat.reduceEqDiff, Nat.reduceAdd, zTy, e0]
  refine CW_cond (decide (w0 = wPack)) (by rfl) (fun c0 => CW_seq (CW_region ?_)) (fun c0 => CW_seq (CW_region ?_))
  · simp only [zZ, reduceIte, Nat.reduceLT, Int.reduceToNat, Int.reduceLE, Int.reduceEq, Int.reduceLT, Nat.reduceEqDiff, Nat.reduceAdd, zTy, hsl _ hg1]
    have hA := pack_spec hpath K p st1 r m.size 1 (n - 1) (n - 1) _ M1 hp1 (by omega) hlen1 hg1 words htl (fun w hw => by have := hwt w hw; omega) (by omega)
    refine ⟨by kernel_rfl, _, hA, ?_⟩
    intro u M hA
    obtain ⟨bb, hbb⟩ := hA.bool
    subst hbb
    simp only [zZ, reduceIte, Nat.reduceLT, Int.reduceToNat, Int.reduceLE, Int.reduceEq, Int.reduceLT, Nat.reduceEqDiff, Nat.reduceAdd, zTy]
    refine CW_ret ?_
    simp only [zZ, reduceIte, Nat.reduceLT, Int.reduceToNat, Int.reduceLE, Int.reduceEq, Int.reduceLT, Nat.reduceEqDiff, Nat.reduceAdd, zTy, mEnd, sAnswer, sAnswer.sRes]
    exact line _ _ (by rw [stepOf, if_pos (of_decide_eq_true c0)]; exact hA)
  have c0 := of_decide_eq_false c0
  simp only [zZ, reduceIte, Nat.reduceLT, Int.reduceToNat, Int.reduceLE, Int.reduceEq, Int.reduceLT, Nat.reduceEqDiff, Nat.reduceAdd, zTy, e1]
  refine CW_cond (decide (w0 = wTick)) (by rfl) (fun c1 => CW_seq (CW_region ?_)) (fun c1 => CW_seq (CW_region ?_))
  · have c1 := of_decide_eq_true c1
    obtain ⟨M2, hM2⟩ : ∃ M2, M2 = M1.push (.cells false 2 [.int .i64 1, .int .i64 1000]) := ⟨_, rfl⟩
    have hg2 : M2.get m.size = some (.cells true 1 (sC (w0 :: r))) := by rw [hM2, Mem.get_push_old (get_live hg1)]; exact hg1
    have hb2 : M2.get M1.size = some (.cells false 2 (([(1, 1000)] : List (Int × Int)).flatMap bC)) := by rw [hM2, Mem.get_push_new]; rfl
    have hp2 : PAt K M2 p st1 := by rw [hM2]; exact hp1.push _
    have hk2 : Keeps K M1 M2 := by rw [hM2]; exact Keeps.push _ _ _
    have hs2 : M2.size = M1.size + 1 := by rw [hM2, Mem.size_push]
    have hnums := numbers_spec r [(1, 1000)] m.size 1 (n - 1) (n - 1) M1.size 1 true false _ M2 hg2 words htl hb2 rfl (by decide) (by decide) (fun w hw => by have := hwt w hw; omega)
    have hstep : stepOf (w0 :: r) = (match numsV r [(1, 1000)] with
        | some [x] => some (stepK 1 0, x.toNat)
        | _ => none) := by
      rw [stepOf, if_neg c0, if_pos c1]
      match r with
      | [] => rfl
      | [a] =>
        simp only [tickOf, numsV, numQ]
        by_cases h1 : (numP a 1 1000).2 = true <;> simp [h1]
      | _ :: _ :: _ => rw [numsV_len _ _ (by simp)]; rfl
    simp only [zZ, reduceIte, Nat.reduceLT, Int.reduceToNat, Int.reduceLE, Int.reduceEq, Int.reduceLT, Nat.reduceEqDiff, Nat.reduceAdd, zTy, hsl _ hg1, build_two, new_twos1, ← hM2]
    refine ⟨by kernel_rfl, _, hnums, ?_⟩
    intro u M hN
    cases hq : numsV r [(1, 1000)] with
    | none =>
      rw [hq] at hN hstep
      obtain ⟨rfl, hM⟩ := hN
      have hM := hM.symm
      subst hM
      simp only [zZ, reduceIte, Nat.reduceLT, Int.reduceToNat, Int.reduceLE, Int.reduceEq, Int.reduceLT, Nat.reduceEqDiff, Nat.reduceAdd, zTy]
      refine CW_seq (CW_region ?_)
      simp only [zZ, reduceIte, Nat.reduceLT, Int.reduceToNat, Int.reduceLE, Int.reduceEq, Int.reduceLT, Nat.reduceEqDiff, Nat.reduceAdd, zTy]
      refine CW_ret ?_
      simp only [zZ, reduceIte, Nat.reduceLT, Int.reduceToNat, Int.reduceLE, Int.reduceEq, Int.reduceLT, Nat.reduceEqDiff, Nat.reduceAdd, zTy, mEnd, sAnswer, sAnswer.sRes]
      exact line _ _ (by rw [hstep]; exact Added.no hp2 hk2 (by omega))
    | some q =>
      rw [hq] at hN hstep
      obtain ⟨rfl, hM⟩ := hN
      obtain ⟨x, rfl⟩ : ∃ x, q = [x] := by
        have hl := numsV_len2 hq
        match q, hl with
        | [x], _ => exact ⟨x, rfl⟩
      have hx1 : 1 ≤ x ∧ x ≤ 1000 := nums_tick hq
      have hge : M.get M2.size = some (.cells false 1 [.int .i64 x]) := by
        rw [hM]
        have := ext_get M2 [some (some (.cells false 1 (iC [x])))] 0
        rw [Nat.add_zero] at this
        rw [this]; rfl
      have hk3 : Keeps K M1 M := by rw [hM]; exact hk2.trans (Keeps.ext _ _ _)
      have hs3 : M1.size ≤ M.size := by rw [hM, ext_size]; omega
      have hp3 : PAt K M p st1 := by rw [hM]; exact hp2.ext _
      clear hM
      have l11 : ((1 : Nat) : Int) = 1 := rfl
      have hadd := added_spec K p st1 (stepK 1 0) (.slice none 0 0) x.toNat x (by omega) M hp3 (by omega) (FilesAt.nil M) hlen1 (by omega)
      simp only [zZ, reduceIte, Nat.reduceLT, Int.reduceToNat, Int.reduceLE, Int.reduceEq, Int.reduceLT, Nat.reduceEqDiff, Nat.reduceAdd, zTy]
      refine CW_seq (CW_region ?_)
      simp only [zZ, reduceIte, Nat.reduceLT, Int.reduceToNat, Int.reduceLE, Int.reduceEq, Int.reduceLT, Nat.reduceEqDiff, Nat.reduceAdd, zTy, l11, hge, build_step1]
      refine ⟨by kernel_rfl, _, hadd, ?_⟩
      intro u M3 hA
      obtain ⟨bb, hbb⟩ := hA.bool
      subst hbb
      simp only [zZ, reduceIte, Nat.reduceLT, Int.reduceToNat, Int.reduceLE, Int.reduceEq, Int.reduceLT, Nat.reduceEqDiff, Nat.reduceAdd, zTy]
      refine CW_ret ?_
      simp only [zZ, reduceIte, Nat.reduceLT, Int.reduceToNat, Int.reduceLE, Int.reduceEq, Int.reduceLT, Nat.reduceEqDiff, Nat.reduceAdd, zTy, mEnd, sAnswer, sAnswer.sRes]
      exact line _ _ (by rw [hstep]; exact hA.mono hk3 hs3)
  have c1 := of_decide_eq_false c1
  simp only [zZ, reduceIte, Nat.reduceLT, Int.reduceToNat, Int.reduceLE, Int.reduceEq, Int.reduceLT, Nat.reduceEqDiff, Nat.reduceAdd, zTy, e2]
  refine CW_cond (decide (w0 = wFuse)) (by rfl) (fun c2 => CW_seq (CW_region ?_)) (fun c2 => CW_seq (CW_region ?_))
  · simp only [zZ, reduceIte, Nat.reduceLT, Int.reduceToNat, Int.reduceLE, Int.reduceEq, Int.reduceLT, Nat.reduceEqDiff, Nat.reduceAdd, zTy, hsl _ hg1]
    have hA := side_spec K p st1 r m.size 1 (n - 1) (n - 1) _ 2 3 M1 hp1 (by omega) hlen1 hg1 words htl (fun w hw => by have := hwt w hw; omega)
    refine ⟨by kernel_rfl, _, hA, ?_⟩
    intro u M hA
    obtain ⟨bb, hbb⟩ := hA.bool
    subst hbb
    simp only [zZ, reduceIte, Nat.reduceLT, Int.reduceToNat, Int.reduceLE, Int.reduceEq, Int.reduceLT, Nat.reduceEqDiff, Nat.reduceAdd, zTy]
    refine CW_ret ?_
    simp only [zZ, reduceIte, Nat.reduceLT, Int.reduceToNat, Int.reduceLE, Int.reduceEq, Int.reduceLT, Nat.reduceEqDiff, Nat.reduceAdd, zTy, mEnd, sAnswer, sAnswer.sRes]
    exact line _ _ (by rw [stepOf, if_neg c0, if_neg c1, if_pos (of_decide_eq_true c2)]; exact hA)
  have c2 := of_decide_eq_false c2
  simp only [zZ, reduceIte, Nat.reduceLT, Int.reduceToNat, Int.reduceLE, Int.reduceEq, Int.reduceLT, Nat.reduceEqDiff, Nat.reduceAdd, zTy, e3]
  refine CW_cond (decide (w0 = wCrash)) (by rfl) (fun c3 => CW_seq (CW_region ?_)) (fun c3 => CW_seq (CW_region ?_))
  · simp only [zZ, reduceIte, Nat.reduceLT, Int.reduceToNat, Int.reduceLE, Int.reduceEq, Int.reduceLT, Nat.reduceEqDiff, Nat.reduceAdd, zTy, hsl _ hg1]
    have hA := side_spec K p st1 r m.size 1 (n - 1) (n - 1) _ 4 5 M1 hp1 (by omega) hlen1 hg1 words htl (fun w hw => by have := hwt w hw; omega)
    refine ⟨by kernel_rfl, _, hA, ?_⟩
    intro u M hA
    obtain ⟨bb, hbb⟩ := hA.bool
    subst hbb
    simp only [zZ, reduceIte, Nat.reduceLT, Int.reduceToNat, Int.reduceLE, Int.reduceEq, Int.reduceLT, Nat.reduceEqDiff, Nat.reduceAdd, zTy]
    refine CW_ret ?_
    simp only [zZ, reduceIte, Nat.reduceLT, Int.reduceToNat, Int.reduceLE, Int.reduceEq, Int.reduceLT, Nat.reduceEqDiff, Nat.reduceAdd, zTy, mEnd, sAnswer, sAnswer.sRes]
    exact line _ _ (by rw [stepOf, if_neg c0, if_neg c1, if_neg c2, if_pos (of_decide_eq_true c3)]; exact hA)
  have c3 := of_decide_eq_false c3
  simp only [zZ, reduceIte, Nat.reduceLT, Int.reduceToNat, Int.reduceLE, Int.reduceEq, Int.reduceLT, Nat.reduceEqDiff, Nat.reduceAdd, zTy, e4]
  refine CW_cond (decide (w0 = wInject)) (by rfl) (fun c4 => CW_seq (CW_region ?_)) (fun c4 => CW_seq (CW_region ?_))
  · simp only [zZ, reduceIte, Nat.reduceLT, Int.reduceToNat, Int.reduceLE, Int.reduceEq, Int.reduceLT, Nat.reduceEqDiff, Nat.reduceAdd, zTy, hsl _ hg1]
    have hA := inject_spec K p st1 r m.size 1 (n - 1) (n - 1) _ M1 hp1 (by omega) hlen1 hg1 words htl (fun w hw => by have := hwt w hw; omega)
    refine ⟨by kernel_rfl, _, hA, ?_⟩
    intro u M hA
    obtain ⟨bb, hbb⟩ := hA.bool
    subst hbb
    simp only [zZ, reduceIte, Nat.reduceLT, Int.reduceToNat, Int.reduceLE, Int.reduceEq, Int.reduceLT, Nat.reduceEqDiff, Nat.reduceAdd, zTy]
    refine CW_ret ?_
    simp only [zZ, reduceIte, Nat.reduceLT, Int.reduceToNat, Int.reduceLE, Int.reduceEq, Int.reduceLT, Nat.reduceEqDiff, Nat.reduceAdd, zTy, mEnd, sAnswer, sAnswer.sRes]
    exact line _ _ (by rw [stepOf, if_neg c0, if_neg c1, if_neg c2, if_neg c3, if_pos (of_decide_eq_true c4)]; exact hA)
  have c4 := of_decide_eq_false c4
  simp only [zZ, reduceIte, Nat.reduceLT, Int.reduceToNat, Int.reduceLE, Int.reduceEq, Int.reduceLT, Nat.reduceEqDiff, Nat.reduceAdd, zTy, e5]
  refine CW_cond (decide (w0 = wFate)) (by rfl) (fun c5 => CW_seq (CW_region ?_)) (fun c5 => CW_skip ?_)
  · simp only [zZ, reduceIte, Nat.reduceLT, Int.reduceToNat, Int.reduceLE, Int.reduceEq, Int.reduceLT, Nat.reduceEqDiff, Nat.reduceAdd, zTy, hsl _ hg1]
    have hA := fate_spec K p st1 r m.size 1 (n - 1) (n - 1) _ M1 hp1 (by omega) hlen1 hg1 words htl (fun w hw => by have := hwt w hw; omega)
    refine ⟨by kernel_rfl, _, hA, ?_⟩
    intro u M hA
    obtain ⟨bb, hbb⟩ := hA.bool
    subst hbb
    simp only [zZ, reduceIte, Nat.reduceLT, Int.reduceToNat, Int.reduceLE, Int.reduceEq, Int.reduceLT, Nat.reduceEqDiff, Nat.reduceAdd, zTy]
    refine CW_ret ?_
    simp only [zZ, reduceIte, Nat.reduceLT, Int.reduceToNat, Int.reduceLE, Int.reduceEq, Int.reduceLT, Nat.reduceEqDiff, Nat.reduceAdd, zTy, mEnd, sAnswer, sAnswer.sRes]
    exact line _ _ (by rw [stepOf, if_neg c0, if_neg c1, if_neg c2, if_neg c3, if_neg c4, if_pos (of_decide_eq_true c5)]; exact hA)
  have c5 := of_decide_eq_false c5
  simp only [zZ, reduceIte, Nat.reduceLT, Int.reduceToNat, Int.reduceLE, Int.reduceEq, Int.reduceLT, Nat.reduceEqDiff, Nat.reduceAdd]
  refine CW_seq (CW_region ?_)
  simp only [zZ, reduceIte, Nat.reduceLT, Int.reduceToNat, Int.reduceLE, Int.reduceEq, Int.reduceLT, Nat.reduceEqDiff, Nat.reduceAdd, zTy]
  refine CW_ret ?_
  simp only [zZ, reduceIte, Nat.reduceLT, Int.reduceToNat, Int.reduceLE, Int.reduceEq, Int.reduceLT, Nat.reduceEqDiff, Nat.reduceAdd, zTy, mEnd, sAnswer, sAnswer.sRes]
  exact line _ _ (by rw [stepOf, if_neg c0, if_neg c1, if_neg c2, if_neg c3, if_neg c4, if_neg c5]; exact Added.no hp1 (Keeps.refl _ _) (Nat.le_refl _))
end Go.Proofs.YthcleiegefhmdaaDoor
namespace Go.Proofs.YthcleiegefhmdaaDoor
open Go.RowKit Abs
def sideL (n : Int) : List UInt8 := if n = 1 then [115, 101, 110, 100, 101, 114] else [114, 101, 99, 101, 105, 118, 101, 114]
def lineL (ws : List (List UInt8)) : List UInt8 := Lib.join ws [32] ++ [10]
theorem str_map_string (ws : List (List UInt8)) : (ws.map str).map Value.string = ws.map fun w => .string (str w) := by simp
theorem str_map_data (ws : List (List UInt8)) : (ws.map str).map (fun s => s.data.toList) = ws := by
  rw [List.map_map]
  conv => rhs; rw [← List.map_id ws]
  exact List.map_congr_left fun w _ => rfl
set_option maxRecDepth 100000 in
set_option maxHeartbeats 2000000 in
theorem put_spec (K p : Nat) (M : Mem) (t : List UInt8) (ws : List (List UInt8)) (g cap : Nat) (ro : Bool) (hB : BAt K M p t) (hg : M.get g = some (.cells ro 1 (ws.map fun w => .string (str w)))) (h0 : ws ≠ []) (hN : ws.length ≤ 140737488355328) (hlen : t.length + (lineL ws).length ≤ 140737488355328) :
    Abs.Spec Tryd.prog 19 [.slice (some ⟨g, 0, none⟩) ws.length cap, .pointer (some ⟨p, 0, none⟩)] M fun u M' => u = .tuple #[] ∧ BAt K M' p (t ++ lineL ws) ∧ Keeps K M M' ∧ M.size ≤ M'.size := by
  have hll : (lineL ws).length = (Lib.join ws [32]).length + 1 := by simp [lineL]
  refine Abs.Spec.walkM Tryd.func19 (by rfl) _ Tryd.results19 _ Tryd.ntmps19 (by simp) ?_
  intro hc hx k
  refine CW_region ?_
  simp only [zZ, reduceIte, Nat.reduceLT, Int.reduceToNat, Int.reduceLE, Int.reduceEq, Int.reduceLT, Nat.reduceEqDiff, Nat.reduceAdd, zTy]
  have hj := join_spec g ro (ws.map str) cap (str [32]) M (by rw [str_map_string]; exact hg) (by simpa using h0) (by rw [List.length_map]; exact hN) (by rw [str_map_data, str_data]; omega)
  rw [str_map_data, List.length_map, str_data] at hj
  refine ⟨by kernel_rfl, _, hj, ?_⟩
  rintro _ M9 ⟨rfl, e9⟩
  replace e9 := e9.symm
  subst e9
  simp only [zZ, reduceIte, Nat.reduceLT, Int.reduceToNat, Int.reduceLE, Int.reduceEq, Int.reduceLT, Nat.reduceEqDiff, Nat.reduceAdd, zTy]
  have hbs : bsize (str (Lib.join ws [32])) = (Lib.join ws [32]).length := rfl
  have hb1 : bsize (⟨#[10]⟩ : ByteArray) = 1 := rfl
  refine ⟨by rw [hbs, hb1]; omega, ?_⟩
  rw [show bcat (str (Lib.join ws [32])) ⟨#[10]⟩ = str (lineL ws) from rfl]
  refine ⟨by kernel_rfl, _, ws_spec K p M t (str (lineL ws)) hB (by rw [Go.Proofs.YthcleiegefhmdaaDoor.str_size]; omega), ?_⟩
  rintro _ M9 ⟨rfl, h1, h2, h3⟩
  simp only [zZ, reduceIte, Nat.reduceLT, Int.reduceToNat, Int.reduceLE, Int.reduceEq, Int.reduceLT, Nat.reduceEqDiff, Nat.reduceAdd, zTy, mEnd, sAnswer, sAnswer.sRes]
  exact ⟨M9, Thin.refl _, h1, h2, h3⟩
theorem bat_keep {K p : Nat} {M M' : Mem} {t : List UInt8} (h : BAt K M p t) (hk : ∀ b x, M.get b = some x → M'.get b = some x) : BAt K M' p t := by
  obtain ⟨h1, a, V, h2, h3, h4⟩ := h
  refine ⟨h1, a, V, hk _ _ h2, h3, ?_⟩
  rcases h4 with h4 | ⟨h5, g, rest, h6, h7, h8, h9, h10⟩
  · exact .inl h4
  · exact .inr ⟨h5, g, rest, h6, h7, h8, h9, hk _ _ h10⟩
theorem put_new (K p : Nat) (M : Mem) (t : List UInt8) (ws : List (List UInt8)) (hB : BAt K M p t) (h0 : ws ≠ []) (hN : ws.length ≤ 140737488355328) (hlen : t.length + (lineL ws).length ≤ 140737488355328) :
    Abs.Spec Tryd.prog 19 [.slice (some ⟨M.size, 0, none⟩) ws.length ws.length, .pointer (some ⟨p, 0, none⟩)] (M.push (.cells false 1 (ws.map fun w => .string (str w)))) fun u M' => u = .tuple #[] ∧ BAt K M' p (t ++ lineL ws) ∧ Keeps K M M' ∧ M.size ≤ M'.size := by
  refine (put_spec K p _ t ws M.size ws.length false (bat_keep hB fun b x hx => by rw [Mem.get_push_old (get_live hx)]; exact hx) (Mem.get_push_new M _) h0 hN hlen).mono ?_
  rintro v m' ⟨h1, h2, h3, h4⟩
  rw [Mem.size_push] at h4
  exact ⟨h1, h2, (Keeps.push K M _).trans h3, by omega⟩
set_option maxRecDepth 100000 in
set_option maxHeartbeats 2000000 in
theorem sides_spec (n : Int) (h : n = 0 ∨ n = 1) (m : Mem) : Abs.Spec Tryd.prog 23 [.int .i64 n] m fun u M => u = .string (str (sideL n)) ∧ M = m := by
  refine Abs.Spec.walkB Tryd.func23 (by rfl) _ Tryd.results23 _ Tryd.ntmps23 (by simp) m [] (ext_nil m).symm 0 rfl (.inl rfl) ?_
  intro hc _
  refine CW_seq (CW_region ?_)
  simp only [zZ, reduceIte, Nat.reduceLT, Int.reduceToNat, Int.reduceLE, Int.reduceEq, Int.reduceLT, Nat.reduceEqDiff, Nat.reduceAdd, zTy]
  have hb : aBuild Tryd.prog 70 [(0, .string ⟨#[114, 101, 99, 101, 105, 118, 101, 114]⟩), (1, .string ⟨#[115, 101, 110, 100, 101, 114]⟩)] = some (.agg #[.string ⟨#[114, 101, 99, 101, 105, 118, 101, 114]⟩, .string ⟨#[115, 101, 110, 100, 101, 114]⟩]) := by kernel_rfl
  have hi : aIndex Tryd.prog 70 (.agg #[.string ⟨#[114, 101, 99, 101, 105, 118, 101, 114]⟩, .string ⟨#[115, 101, 110, 100, 101, 114]⟩]) (.int .i64 n) = some (.string (str (sideL n))) := by
    rcases h with rfl | rfl <;> kernel_rfl
  refine CW_seq (CW_region ?_)
  simp only [zZ, reduceIte, Nat.reduceLT, Int.reduceToNat, Int.reduceLE, Int.reduceEq, Int.reduceLT, Nat.reduceEqDiff, Nat.reduceAdd, zTy, hb, hi]
  refine CW_ret ?_
  simp only [zZ, reduceIte, Nat.reduceLT, Int.reduceToNat, Int.reduceLE, Int.reduceEq, Int.reduceLT, Nat.reduceEqDiff, Nat.reduceAdd, zTy, bEnd, sAnswer, sAnswer.sRes]
  exact told_flat rfl rfl
end Go.Proofs.YthcleiegefhmdaaDoor
namespace Go.Proofs.YthcleiegefhmdaaDoor
open Go.RowKit Abs
def ps0 : PS := (0, 0, 0, 0, [])
def runLines : List (List UInt8) → Nat → PS → PS × Int × Int
  | [], _, x => (x, 0, 0)
  | s :: r, n, x => match lineOf (decide (n = 0)) x (pieces 32 s []) with
    | none => (ps0, ((n + 1 : Nat) : Int), 2)
    | some y => runLines r (n + 1) y
def parseV (s : List UInt8) : PS × Int × Int :=
  if 262144 < s.length then (ps0, 0, 3) else if Lib.hasSuffix s [10] = false then (ps0, 1 + (s.count 10 : Nat), 2) else runLines (pieces 10 (Lib.trimSuffix s [10]) []) 0 ps0
def ScrAt (M : Mem) (V : Value) (L : List StepL) : Prop := ∃ LV : List (StepL × Value), LV.map Prod.fst = L ∧ (∀ q ∈ LV, FilesAt M q.2 q.1.files) ∧ Rd M 7 V L.length (LV.flatMap stepC)
theorem ScrAt.nil (M : Mem) : ScrAt M (.slice none 0 0) [] := ⟨[], rfl, fun q hq => by simp at hq, none, 0, rfl, rfl, Nat.le_refl _, Nat.zero_le _, fun _ => rfl, fun p hp => by cases hp⟩
def scrAgg (x : PS) (V : Value) : Value := .agg #[.int .i64 x.1, .int .i64 x.2.1, .int .i64 x.2.2.1, .int .i64 x.2.2.2.1, V]
theorem PAt.scr {k p : Nat} {M : Mem} {st : PState} (h : PAt k M p st) (hl : st.steps.length ≤ 4096) : ∃ s V, M.get p = some (.cells false s [.int .i64 st.a, .int .i64 st.b, .int .i64 st.c, .int .i64 st.d, V, .int .i64 st.n]) ∧ ScrAt M V (stepsOf st) ∧ ∃ a n c, V = .slice a n c := by
  obtain ⟨_, s, V, h1, h2, h3⟩ := h
  refine ⟨s, V, h1, ⟨st.steps, rfl, h2, ?_⟩, ?_⟩
  · rw [stepsOf_len]
    rcases h3 with ⟨h4, rfl⟩ | ⟨h4, g, _, _, rfl, h5⟩
    · rw [h4]; exact ⟨none, 0, rfl, rfl, Nat.le_refl _, Nat.zero_le _, fun _ => rfl, fun p hp => by cases hp⟩
    · refine ⟨some ⟨g, 0, none⟩, st.steps.length, rfl, flatMap_len stepC 7 _ fun x _ => stepC_len x, Nat.le_refl _, by unfold maxLen; omega, (fun e => by cases e), fun q hq => ?_⟩
      cases hq
      exact ⟨g, rfl, fun _ => ⟨false, h5⟩⟩
  · rcases h3 with ⟨_, rfl⟩ | ⟨_, g, _, _, rfl, _⟩
    · exact ⟨_, _, _, rfl⟩
    · exact ⟨_, _, _, rfl⟩
theorem PAt.set_low {k p b s : Nat} {M : Mem} {st : PState} {cs : List Value} (h : PAt k M p st) (hb : b < k) (hx : M.get b = some (.cells false s cs)) (o : Option Blk) : PAt k (M.set b o) p st := by
  obtain ⟨h1, s', V, h2, h3, h4⟩ := h
  refine ⟨h1, s', V, by rw [Mem.get_set_ne (by omega)]; exact h2, fun q hq => (Keeps.set (k := 0) (Nat.zero_le _) hx o).files (h3 q hq), ?_⟩
  rcases h4 with h4 | ⟨h5, g, h6, h7, h8, h9⟩
  · exact .inl h4
  · exact .inr ⟨h5, g, h6, h7, h8, by rw [Mem.get_set_ne (by omega)]; exact h9⟩
theorem lineOf_len {f : Bool} {x y : PS} {ws : List (List UInt8)} (h : lineOf f x ws = some y) : y.2.2.2.2.length ≤ 4096 := by
  unfold lineOf at h
  split at h
  · rw [Option.map_eq_some_iff] at h
    obtain ⟨a, _, rfl⟩ := h
    simp
  · rw [Option.map_eq_some_iff] at h
    obtain ⟨L, h1, rfl⟩ := h
    unfold addS at h1
    split at h1
    · cases h1
    · split at h1
      · cases h1
        simp; omega
      · cases h1
theorem build_scr0 : aBuild Tryd.prog 29 [] = some (.agg #[.int .i64 0, .int .i64 0, .int .i64 0, .int .i64 0, .slice none 0 0]) := by kernel_rfl
theorem build_par0 : aBuild Tryd.prog 54 [] = some (.agg #[.int .i64 0, .int .i64 0, .int .i64 0, .int .i64 0, .slice none 0 0, .int .i64 0]) := by kernel_rfl
def ParseR (m : Mem) (r : PS × Int × Int) (u : Value) (M : Mem) : Prop :=
  Keeps m.size m M ∧ m.size ≤ M.size ∧ ∃ V, u = .tuple #[scrAgg r.1 V, .int .i64 r.2.1, .int .i64 r.2.2] ∧ ScrAt M V r.1.2.2.2.2
set_option maxRecDepth 100000 in
set_option maxHeartbeats 4000000 in
theorem parse_spec (hpath : PathOk) (s : List UInt8) (hs : s.length ≤ 1000000) (m : Mem) :
    Abs.Spec Tryd.prog 10 [.string (str s)] m (ParseR m (parseV s)) := by
  refine Abs.Spec.walkM Tryd.func10 (by rfl) _ Tryd.results10 _ Tryd.ntmps10 (by simp) ?_
  intro hc hx k
  obtain ⟨R, hR⟩ : ∃ R, R = parseV s := ⟨_, rfl⟩
  rw [← hR]
  have hal := al_Scr
  generalize aStride Tryd.prog 29 = s1 at hal
  obtain ⟨s2, hbp⟩ : ∃ s2, nBox Tryd.prog 54 (.agg #[.int .i64 0, .int .i64 0, .int .i64 0, .int .i64 0, .slice none 0 0, .int .i64 0]) = some (.cells false s2 [.int .i64 0, .int .i64 0, .int .i64 0, .int .i64 0, .slice none 0 0, .int .i64 0]) := ⟨_, bx_Par _ rfl⟩
  -- what is told where the text is none
  have bad : ∀ (M : Mem) (n e : Int), R = (ps0, n, e) → Keeps m.size m M → m.size ≤ M.size → ∃ m', Thin M m' ∧ ParseR m R (.tuple #[.agg #[.int .i64 0, .int .i64 0, .int .i64 0, .int .i64 0, .slice none 0 0], .int .i64 n, .int .i64 e]) m' := fun M n e h h1 h2 => by
    rw [h]
    exact ⟨M, Thin.refl _, h1, h2, _, rfl, ScrAt.nil M⟩
  obtain ⟨M1, hM1⟩ : ∃ M1, M1 = m.push (.cells false s1 [.int .i64 0, .int .i64 0, .int .i64 0, .int .i64 0, .slice none 0 0]) := ⟨_, rfl⟩
  have hb1 : M1.get m.size = some (.cells false s1 [.int .i64 0, .int .i64 0, .int .i64 0, .int .i64 0, .slice none 0 0]) := by rw [hM1, Mem.get_push_new]
  have hk1 : Keeps m.size m M1 := by rw [hM1]; exact Keeps.push _ _ _
  have hs1 : M1.size = m.size + 1 := by rw [hM1, Mem.size_push]
  refine CW_seq (CW_region ?_)
  simp only [zZ, reduceIte, Nat.reduceLT, Int.reduceToNat, Int.reduceLE, Int.reduceEq, Int.reduceLT, Nat.reduceEqDiff, Nat.reduceAdd, zTy, hal, ← hM1]
  clear hM1
  have hset1 : ∀ o, Keeps m.size m (M1.set m.size o) ∧ m.size ≤ (M1.set m.size o).size := fun o => ⟨hk1.trans (Keeps.set (Nat.le_refl _) hb1 o), by rw [Mem.size_set]; omega⟩
  refine CW_seq (CW_seq (CW_region ?_))
  simp only [zZ, reduceIte, Nat.reduceLT, Int.reduceToNat, Int.reduceLE, Int.reduceEq, Int.reduceLT, Nat.reduceEqDiff, Nat.reduceAdd, zTy, bsize_str]
  refine CW_cond (decide ((262144 : Int) < (s.length : Int))) (by rfl) (fun h => CW_seq (CW_region ?_)) (fun h => CW_skip ?_)
  · simp only [zZ, reduceIte, Nat.reduceLT, Int.reduceToNat, Int.reduceLE, Int.reduceEq, Int.reduceLT, Nat.reduceEqDiff, Nat.reduceAdd, zTy, build_scr0, hb1]
    refine CW_ret ?_
    simp only [zZ, reduceIte, Nat.reduceLT, Int.reduceToNat, Int.reduceLE, Int.reduceEq, Int.reduceLT, Nat.reduceEqDiff, Nat.reduceAdd, zTy, mEnd, sAnswer, sAnswer.sRes, aLoad_g, Mem.get_set_same hb1]
    have := of_decide_eq_true h
    exact bad _ 0 3 (by rw [hR, parseV, if_pos (by omega)]) (hset1 _).1 (hset1 _).2
  have h := of_decide_eq_false h
  have hR1 : R = if Lib.hasSuffix s [10] = false then ((ps0, 1 + ((s.count 10 : Nat) : Int), 2) : PS × Int × Int) else runLines (pieces 10 (Lib.trimSuffix s [10]) []) 0 ps0 := by rw [hR, parseV, if_neg (by omega)]
  simp only [zZ, reduceIte, Nat.reduceLT, Int.reduceToNat, Int.reduceLE, Int.reduceEq, Int.reduceLT, Nat.reduceEqDiff, Nat.reduceAdd]
  obtain ⟨M2, hM2⟩ : ∃ M2, M2 = M1.push (.cells false s2 [.int .i64 0, .int .i64 0, .int .i64 0, .int .i64 0, .slice none 0 0, .int .i64 0]) := ⟨_, rfl⟩
  have hb2 : M2.get m.size = some (.cells false s1 [.int .i64 0, .int .i64 0, .int .i64 0, .int .i64 0, .slice none 0 0]) := by rw [hM2, Mem.get_push_old (get_live hb1)]; exact hb1
  have hq2 : M2.get M1.size = some (.cells false s2 [.int .i64 0, .int .i64 0, .int .i64 0, .int .i64 0, .slice none 0 0, .int .i64 0]) := by rw [hM2, Mem.get_push_new]
  have hk2 : Keeps m.size m M2 := by rw [hM2]; exact hk1.trans (Keeps.push _ _ _)
  have hs2 : M2.size = m.size + 2 := by rw [hM2, Mem.size_push, hs1]
  refine CW_seq (CW_region ?_)
  simp only [zZ, reduceIte, Nat.reduceLT, Int.reduceToNat, Int.reduceLE, Int.reduceEq, Int.reduceLT, Nat.reduceEqDiff, Nat.reduceAdd, zTy, build_par0, hbp, ← hM2]
  clear hM2
  rw [hs1] at hq2
  rw [hs1]
  have hset2 : ∀ M o, Keeps m.size m M → m.size < M.size → M.get m.size = some (.cells false s1 [.int .i64 0, .int .i64 0, .int .i64 0, .int .i64 0, .slice none 0 0]) → Keeps m.size m (M.set m.size o) ∧ m.size ≤ (M.set m.size o).size := fun M o h1 h2 h3 => ⟨h1.trans (Keeps.set (Nat.le_refl _) h3 o), by rw [Mem.size_set]; omega⟩
  refine CW_seq (CW_region ?_)
  simp only [zZ, reduceIte, Nat.reduceLT, Int.reduceToNat, Int.reduceLE, Int.reduceEq, Int.reduceLT, Nat.reduceEqDiff, Nat.reduceAdd, zTy]
  refine ⟨by kernel_rfl, _, suffix_spec (str s) (str [10]) (by rw [Go.Proofs.YthcleiegefhmdaaDoor.str_size]; omega) _, ?_⟩
  rintro _ M9 ⟨rfl, e9⟩
  replace e9 := e9.symm
  subst e9
  simp only [zZ, reduceIte, Nat.reduceLT, Int.reduceToNat, Int.reduceLE, Int.reduceEq, Int.reduceLT, Nat.reduceEqDiff, Nat.reduceAdd, zTy, str_data]
  refine CW_seq (CW_seq (CW_region ?_))
  simp only [zZ, reduceIte, Nat.reduceLT, Int.reduceToNat, Int.reduceLE, Int.reduceEq, Int.reduceLT, Nat.reduceEqDiff, Nat.reduceAdd, zTy]
  refine CW_cond (!Lib.hasSuffix s [10]) (by rfl) (fun h => CW_seq (CW_region ?_)) (fun h => CW_skip ?_)
  · have hsf : Lib.hasSuffix s [10] = false := by simpa using h
    simp only [zZ, reduceIte, Nat.reduceLT, Int.reduceToNat, Int.reduceLE, Int.reduceEq, Int.reduceLT, Nat.reduceEqDiff, Nat.reduceAdd, zTy, build_scr0, hb2]
    refine ⟨by kernel_rfl, _, count_spec (str s) 10 _, ?_⟩
    rintro _ M9 ⟨rfl, e9⟩
    replace e9 := e9.symm
    subst e9
    have hcl := List.count_le_length (l := s) (a := 10)
    have hwr : IntKind.i64.wrap (1 + ((Lib.countByte s 10 : Nat) : Int)) = 1 + ((s.count 10 : Nat) : Int) := by
      unfold Lib.countByte
      exact wr (by omega) (by omega)
    simp only [zZ, reduceIte, Nat.reduceLT, Int.reduceToNat, Int.reduceLE, Int.reduceEq, Int.reduceLT, Nat.reduceEqDiff, Nat.reduceAdd, zTy, str_data, hwr, hb2]
    refine CW_ret ?_
    simp only [zZ, reduceIte, Nat.reduceLT, Int.reduceToNat, Int.reduceLE, Int.reduceEq, Int.reduceLT, Nat.reduceEqDiff, Nat.reduceAdd, zTy, mEnd, sAnswer, sAnswer.sRes, aLoad_g, Mem.get_set_same hb2]
    exact bad _ _ 2 (by rw [hR1, if_pos hsf]) (hset2 _ _ hk2 (by omega) hb2).1 (hset2 _ _ hk2 (by omega) hb2).2
  have hsf : ¬ Lib.hasSuffix s [10] = false := by simpa using h
  have hR2 : R = runLines (pieces 10 (Lib.trimSuffix s [10]) []) 0 ps0 := by rw [hR1, if_neg hsf]
  have htr : (Lib.trimSuffix s [10]).length ≤ s.length := by
    unfold Lib.trimSuffix
    split
    · rw [List.length_take]; omega
    · exact Nat.le_refl _
  simp only [zZ, reduceIte, Nat.reduceLT, Int.reduceToNat, Int.reduceLE, Int.reduceEq, Int.reduceLT, Nat.reduceEqDiff, Nat.reduceAdd]
  have hwl : ∀ w ∈ pieces 10 (Lib.trimSuffix s [10]) [], w.length ≤ 262144 := fun w hw => by have := pieces_mem 10 _ [] w hw; simp at this; omega
  have hwn : (pieces 10 (Lib.trimSuffix s [10]) []).length ≤ 262145 := by rw [pieces_len]; have := List.count_le_length (l := Lib.trimSuffix s [10]) (a := 10); omega
  have hsplit := split_words (Lib.trimSuffix s [10]) 10 (by omega) M2
  generalize pieces 10 (Lib.trimSuffix s [10]) [] = ls at hwl hwn hsplit hR2
  refine CW_seq (CW_seq (CW_region ?_))
  simp only [zZ, reduceIte, Nat.reduceLT, Int.reduceToNat, Int.reduceLE, Int.reduceEq, Int.reduceLT, Nat.reduceEqDiff, Nat.reduceAdd, zTy]
  refine ⟨by kernel_rfl, _, hsplit, ?_⟩
  rintro _ M9 ⟨rfl, hM9⟩
  simp only [zZ, reduceIte, Nat.reduceLT, Int.reduceToNat, Int.reduceLE, Int.reduceEq, Int.reduceLT, Nat.reduceEqDiff, Nat.reduceAdd, zTy]
  obtain ⟨n, hn⟩ : ∃ n, ls.length = n := ⟨_, rfl⟩
  rw [hn] at hwn ⊢
  have hg9 : M9.get M2.size = some (.cells false 1 (sC ls)) := by
    rw [hM9]
    have := ext_get M2 [some (some (.cells false 1 (sC ls)))] 0
    rw [Nat.add_zero] at this
    rw [this]; rfl
  have hs9 : M9.size = M2.size + 1 := by rw [hM9, ext_size]; rfl
  have hold9 : ∀ b x, M2.get b = some x → (fz1 M2.size M9).get b = some x := fun b x hb => by
    rw [fz1_ne (by have := get_live hb; omega), hM9]; exact ext_get_old _ hb
  refine CW_thin (fz1_thin M2.size M9) ?_
  have hg0 := fz1_get hg9
  have hs0 : (fz1 M2.size M9).size = M2.size + 1 := by unfold fz1; rw [hg9]; simp only [Mem.size_set, hs9]
  obtain ⟨M0, hM0⟩ : ∃ M0, M0 = fz1 M2.size M9 := ⟨_, rfl⟩
  rw [← hM0] at hg0 hs0 hold9 ⊢
  clear hM0 hg9 hs9 hM9
  have hp0 : PAt (m.size + 1) M0 (m.size + 1) ⟨0, 0, 0, 0, [], 0⟩ := ⟨Nat.le_refl _, s2, _, hold9 _ _ hq2, fun q hq => by simp at hq, .inl ⟨rfl, rfl⟩⟩
  have hk0 : Keeps m.size m M0 := hk2.trans ⟨fun b x _ h => hold9 b x h, fun b s cs h => hold9 b _ h⟩
  have hb0 := hold9 _ _ hb2
  refine CW_block (MW_loop (fun j f M => ∃ (t : Nat) (st : PState), t + j = n ∧ st.n = t ∧ st.steps.length ≤ 4096 ∧ R = runLines (ls.drop t) t (psOf st) ∧
    f = [(2, .pointer (some ⟨m.size, 0, none⟩)), (5, .pointer (some ⟨m.size + 1, 0, none⟩)), (28, .slice (some ⟨M2.size, 0, none⟩) n n), (29, .int .i64 (n : Nat)), (30, .int .i64 (t : Nat))] ∧
    Keeps (m.size + 1) M0 M ∧ M0.size ≤ M.size ∧ PAt (m.size + 1) M (m.size + 1) st) n ?_ ?_)
  · refine ⟨[2, 5, 28, 29, 30], ?_⟩
    simp only [zZ, reduceIte, Nat.reduceLT, Int.reduceToNat, Int.reduceLE, Int.reduceEq, Int.reduceLT, Nat.reduceEqDiff, Nat.reduceAdd, keepF]
    exact ⟨_, Thin.refl _, 0, ⟨0, 0, 0, 0, [], 0⟩, by omega, rfl, by simp, hR2, rfl, Keeps.refl _ _, Nat.le_refl _, hp0⟩
  · rintro j f M ⟨t, st, htj, hstn, hstl, hun, rfl, hkM, hsM, hpM⟩
    have hgM := hkM.2 _ _ _ hg0
    have hbM := hkM.1 _ _ (by omega) hb0
    have hkmM : Keeps m.size m M := hk0.trans ⟨fun b x hb h => hkM.1 b x (by omega) h, hkM.2⟩
    refine CW_seq (CW_region ?_)
    simp only [zZ, reduceIte, Nat.reduceLT, Int.reduceToNat, Int.reduceLE, Int.reduceEq, Int.reduceLT, Nat.reduceEqDiff, Nat.reduceAdd, zTy]
    refine CW_seq (CW_cond (decide ((t : Int) < (n : Int))) (by rfl) (fun h => CW_skip ?_) (fun h => CW_exit ?_))
    · simp only [zZ, reduceIte, Nat.reduceLT, Int.reduceToNat, Int.reduceLE, Int.reduceEq, Int.reduceLT, Nat.reduceEqDiff, Nat.reduceAdd]
      have htl : t < n := by have := of_decide_eq_true h; omega
      have h0 : (0 : Int) ≤ (t : Int) := by omega
      have h1 : (t : Int) < (n : Int) := by omega
      obtain ⟨w, hw⟩ : ∃ w, ls[t]? = some w := ⟨_, List.getElem?_eq_getElem (by omega)⟩
      have aw := get_str ls t w hw
      have hwl2 := hwl w (List.mem_of_getElem? hw)
      have hxi : IntKind.i64.wrap ((t : Int) + 1) = ((t + 1 : Nat) : Int) := by rw [wr (by omega) (by omega)]; omega
      rw [drop_get hw, runLines] at hun
      have hline := line_spec hpath (m.size + 1) (m.size + 1) st w M hpM (by omega) hstl (by omega) (by omega) (by omega)
      have hz : decide (st.n = 0) = decide (t = 0) := by rw [decide_eq_decide]; omega
      rw [hz] at hline
      refine CW_seq (CW_block (CW_seq (CW_region ?_)))
      simp only [zZ, reduceIte, Nat.reduceLT, Int.reduceToNat, Int.reduceLE, Int.reduceEq, Int.reduceLT, Nat.reduceEqDiff, Nat.reduceAdd, zTy, h0, h1, and_self, hgM, aw]
      refine CW_seq (CW_region ?_)
      simp only [zZ, reduceIte, Nat.reduceLT, Int.reduceToNat, Int.reduceLE, Int.reduceEq, Int.reduceLT, Nat.reduceEqDiff, Nat.reduceAdd, zTy]
      refine ⟨by kernel_rfl, _, hline, ?_⟩
      rintro u M3 ⟨g1, g2, st3, g3, g4, g5⟩
      have hb3 := g1.1 _ _ (by omega) hbM
      have hk3 : Keeps m.size m M3 := hkmM.trans ⟨fun b x hb h => g1.1 b x (by omega) h, g1.2⟩
      cases hl : lineOf (decide (t = 0)) (psOf st) (pieces 32 w []) with
      | none =>
        rw [hl] at g5 hun
        subst g5
        obtain ⟨_, sp, V, hgp, _⟩ := id g3
        simp only [zZ, reduceIte, Nat.reduceLT, Int.reduceToNat, Int.reduceLE, Int.reduceEq, Int.reduceLT, Nat.reduceEqDiff, Nat.reduceAdd, zTy]
        refine CW_cond true (by rfl) (fun _ => CW_seq (CW_draw4 hmix 5 [1, 2, 3, 4] (by kernel_rfl) ?_)) (fun h => by cases h)
        have hst3 : st3.n = ((t + 1 : Nat) : Int) := by omega
        have hgp4 : ∀ o, (M3.set m.size o).get (m.size + 1) = some (.cells false sp [.int .i64 st3.a, .int .i64 st3.b, .int .i64 st3.c, .int .i64 st3.d, V, .int .i64 st3.n]) := fun o => by rw [Mem.get_set_ne (by omega)]; exact hgp
        simp only [sQB, idleOK, List.getElem?_cons_succ, List.getElem?_cons_zero, Option.bind_some, zZ, reduceIte, Nat.reduceLT, Int.reduceToNat, Int.reduceLE, Int.reduceEq, Int.reduceLT, Nat.reduceEqDiff, Nat.reduceAdd, zTy, build_scr0, hgp, hb3, hgp4]
        refine ⟨⟨⟨_, rfl, rfl⟩, ⟨_, rfl, rfl⟩, ⟨_, rfl, rfl⟩, ⟨_, rfl, rfl⟩⟩, ?_⟩
        refine CW_ret ?_
        simp only [zZ, reduceIte, Nat.reduceLT, Int.reduceToNat, Int.reduceLE, Int.reduceEq, Int.reduceLT, Nat.reduceEqDiff, Nat.reduceAdd, zTy, mEnd, sAnswer, sAnswer.sRes, aLoad_g, Mem.get_set_same hb3]
        exact bad _ _ 2 (by rw [hun, hst3]) (hset2 _ _ hk3 (by omega) hb3).1 (hset2 _ _ hk3 (by omega) hb3).2
      | some y =>
        rw [hl] at g5 hun
        obtain ⟨rfl, g6⟩ := g5
        simp only [zZ, reduceIte, Nat.reduceLT, Int.reduceToNat, Int.reduceLE, Int.reduceEq, Int.reduceLT, Nat.reduceEqDiff, Nat.reduceAdd, zTy]
        refine CW_cond false (by rfl) (fun h => by cases h) (fun _ => CW_skip ?_)
        simp only [zZ, reduceIte, Nat.reduceLT, Int.reduceToNat, Int.reduceLE, Int.reduceEq, Int.reduceLT, Nat.reduceEqDiff, Nat.reduceAdd]
        refine CW_region ?_
        simp only [zZ, reduceIte, Nat.reduceLT, Int.reduceToNat, Int.reduceLE, Int.reduceEq, Int.reduceLT, Nat.reduceEqDiff, Nat.reduceAdd, zTy, hxi]
        refine ⟨[2, 5, 28, 29, 30], ?_⟩
        simp only [zZ, reduceIte, Nat.reduceLT, Int.reduceToNat, Int.reduceLE, Int.reduceEq, Int.reduceLT, Nat.reduceEqDiff, Nat.reduceAdd, keepF]
        refine ⟨_, Thin.refl _, j - 1, ⟨t + 1, st3, by omega, by omega, ?_, by rw [hun, g6], rfl, hkM.trans g1, by omega, g3⟩, by omega⟩
        have := lineOf_len hl
        rw [← g6] at this
        rw [← stepsOf_len]; exact this
    · simp only [zZ, reduceIte, Nat.reduceLT, Int.reduceToNat, Int.reduceLE, Int.reduceEq, Int.reduceLT, Nat.reduceEqDiff, Nat.reduceAdd]
      have htl : t = n := by have := of_decide_eq_false h; omega
      have hdn : ls.drop t = [] := List.drop_eq_nil_of_le (by omega)
      rw [hdn, runLines] at hun
      obtain ⟨sp, V, hgp, hscr, va, vn, vc, hV⟩ := hpM.scr hstl
      subst hV
      refine CW_seq (CW_region ?_)
      have hput : putIn 5 M m.size 0 [.int .i64 st.a, .int .i64 st.b, .int .i64 st.c, .int .i64 st.d, .slice va vn vc] (M.get m.size) = some (M.set m.size (some (.cells false s1 [.int .i64 st.a, .int .i64 st.b, .int .i64 st.c, .int .i64 st.d, .slice va vn vc]))) := by rw [hbM]; rfl
      simp only [zZ, reduceIte, Nat.reduceLT, Int.reduceToNat, Int.reduceLE, Int.reduceEq, Int.reduceLT, Nat.reduceEqDiff, Nat.reduceAdd, zTy, hgp, hput]
      refine CW_ret ?_
      simp only [zZ, reduceIte, Nat.reduceLT, Int.reduceToNat, Int.reduceLE, Int.reduceEq, Int.reduceLT, Nat.reduceEqDiff, Nat.reduceAdd, zTy, mEnd, sAnswer, sAnswer.sRes, aLoad_g, Mem.get_set_same hbM]
      obtain ⟨_, V2, hgp2, hscr2, _⟩ := (hpM.set_low (Nat.lt_succ_self _) hbM (some (.cells false s1 [.int .i64 st.a, .int .i64 st.b, .int .i64 st.c, .int .i64 st.d, .slice va vn vc]))).scr hstl
      rw [Mem.get_set_ne (by omega), hgp] at hgp2
      have hV2 : V2 = .slice va vn vc := by injection hgp2 with e; injection e with _ _ e; simp only [List.cons.injEq] at e; exact e.2.2.2.2.1.symm
      rw [hV2] at hscr2
      refine ⟨M.set m.size (some (.cells false s1 [.int .i64 st.a, .int .i64 st.b, .int .i64 st.c, .int .i64 st.d, .slice va vn vc])), Thin.refl _, (hset2 _ _ hkmM (by omega) hbM).1, (hset2 _ _ hkmM (by omega) hbM).2, .slice va vn vc, by rw [hun]; rfl, ?_⟩
      rw [hun]
      exact hscr2
end Go.Proofs.YthcleiegefhmdaaDoor
namespace Go.Proofs.YthcleiegefhmdaaDoor
open Go.RowKit Abs
def fileW (f : FileL) : List UInt8 := hexV f.1 ++ [58] ++ hexV f.2
def stepLine (x : StepL) : List UInt8 :=
  if x.kind = 0 then lineL ([112, 97, 99, 107] :: x.files.map fileW) else
  if x.kind = 2 ∨ x.kind = 3 then lineL [[102, 117, 115, 101], sideL (3 - x.kind), Lib.itoa x.n] else
  if x.kind = 4 ∨ x.kind = 5 then lineL [[99, 114, 97, 115, 104], sideL (5 - x.kind), Lib.itoa x.n] else
  if x.kind = 6 then lineL [[105, 110, 106, 101, 99, 116], sideL (bits BinOp.and IntKind.i64 x.n 1), hexV x.text, Lib.itoa x.delay] else
  if x.kind = 7 then (if x.drop = true then lineL [[102, 97, 116, 101], [100, 114, 111, 112]] else lineL [[102, 97, 116, 101], Lib.itoa x.delay, Lib.itoa x.copies]) else []
def tickNext : List StepL → Bool
  | [] => false
  | x :: _ => decide (x.kind = 1)
def printB : Nat → List StepL → List UInt8
  | _, [] => []
  | n, x :: r => if x.kind = 1 then (if tickNext r = true ∧ n + 1 < 1000 then printB (n + 1) r else lineL [[116, 105, 99, 107], Lib.itoa ((n + 1 : Nat) : Int)] ++ printB 0 r) else stepLine x ++ printB 0 r
def printV (s : PS) : List UInt8 := lineL [[119, 111, 114, 108, 100], Lib.itoa s.1, Lib.itoa s.2.1, Lib.itoa s.2.2.1, Lib.itoa s.2.2.2.1] ++ printB 0 s.2.2.2.2
def isI64 (n : Int) : Prop := -9223372036854775808 ≤ n ∧ n ≤ 9223372036854775807
structure StepOk (x : StepL) : Prop where
  n : isI64 x.n
  delay : isI64 x.delay
  copies : isI64 x.copies
  text : x.text.length ≤ 1000000
  files : x.files.length ≤ 1000000
  file : ∀ f ∈ x.files, f.1.length ≤ 1000000 ∧ f.2.length ≤ 1000000
theorem hexV_len (l : List UInt8) : (hexV l).length ≤ 2 * l.length + 1 := by
  have : ∀ q : List UInt8, (hexL q).length = 2 * q.length := fun q => by
    induction q with
    | nil => rfl
    | cons x q ih => simp only [hexL, List.flatMap_cons, List.length_append, List.length_cons, List.length_nil] at ih ⊢; omega
  unfold hexV
  split
  · simp
  · rw [this]; omega
theorem bit_one (n : Int) (h : isI64 n) : bits BinOp.and IntKind.i64 n 1 = 0 ∨ bits BinOp.and IntKind.i64 n 1 = 1 := by
  have h1 : (BitVec.ofInt 64 1).toNat = 2 ^ 1 - 1 := by decide
  have key : (BitVec.ofInt 64 n &&& BitVec.ofInt 64 1).toNat = (n % ((2 ^ 64 : Nat) : Int)).toNat % 2 ^ 1 := by
    rw [BitVec.toNat_and, BitVec.toNat_ofInt, h1, Nat.and_two_pow_sub_one_eq_mod]
  have e : bits .and .i64 n 1 = IntKind.i64.wrap ((BitVec.ofInt 64 n &&& BitVec.ofInt 64 1).toNat : Nat) := rfl
  rw [e, key, IntKind.wrap_i64]
  omega
theorem al_B : nAlloc Tryd.prog 62 = some (.cells false 0 [.pointer none, .slice none 0 0]) := by kernel_rfl
theorem new_s1 (a : ByteArray) : nBuildSlice Tryd.prog 58 1 [(0, .string a)] = some (.cells false 1 [.string a]) := by kernel_rfl
theorem new_s2 (a b : ByteArray) : nBuildSlice Tryd.prog 58 2 [(0, .string a), (1, .string b)] = some (.cells false 1 [.string a, .string b]) := by kernel_rfl
theorem new_s3 (a b c : ByteArray) : nBuildSlice Tryd.prog 58 3 [(0, .string a), (1, .string b), (2, .string c)] = some (.cells false 1 [.string a, .string b, .string c]) := by kernel_rfl
theorem new_s4 (a b c d : ByteArray) : nBuildSlice Tryd.prog 58 4 [(0, .string a), (1, .string b), (2, .string c), (3, .string d)] = some (.cells false 1 [.string a, .string b, .string c, .string d]) := by kernel_rfl
theorem new_s5 (a b c d e : ByteArray) : nBuildSlice Tryd.prog 58 5 [(0, .string a), (1, .string b), (2, .string c), (3, .string d), (4, .string e)] = some (.cells false 1 [.string a, .string b, .string c, .string d, .string e]) := by kernel_rfl
set_option maxRecDepth 100000 in
set_option maxHeartbeats 4000000 in
theorem print_spec (x : PS) (a : Option Addr) (ca : Nat) (m : Mem) (hA : ScrAt m (.slice a x.2.2.2.2.length ca) x.2.2.2.2) (h0 : isI64 x.1) (h1 : isI64 x.2.1) (h2 : isI64 x.2.2.1) (h3 : isI64 x.2.2.2.1) (hl : x.2.2.2.2.length ≤ 1000000000) (hok : ∀ y ∈ x.2.2.2.2, StepOk y) (hT : (printV x).length ≤ 140737488355328) :
    Abs.Spec Tryd.prog 11 [scrAgg x (.slice a x.2.2.2.2.length ca)] m fun u M => u = .string (str (printV x)) ∧ Keeps m.size m M := by
  refine Abs.Spec.walkM Tryd.func11 (by rfl) _ Tryd.results11 _ Tryd.ntmps11 (by simp) ?_
  intro hc hx k
  obtain ⟨x0, x1, x2, x3, L⟩ := x
  simp only at hA h0 h1 h2 h3 hl hok ⊢
  obtain ⟨T, hTe⟩ : ∃ T, T = printV (x0, x1, x2, x3, L) := ⟨_, rfl⟩
  rw [← hTe] at hT ⊢
  have bA : nBox Tryd.prog 29 (scrAgg (x0, x1, x2, x3, L) (.slice a L.length ca)) = some (.cells false (aStride Tryd.prog 29) [.int .i64 x0, .int .i64 x1, .int .i64 x2, .int .i64 x3, .slice a L.length ca]) := bx_Scr _ rfl
  generalize aStride Tryd.prog 29 = s1 at bA
  have hal := al_Step
  generalize aStride Tryd.prog 41 = s2 at hal
  have halF : nAlloc Tryd.prog 43 = some (.cells false (aStride Tryd.prog 43) [.string ⟨#[]⟩, .string ⟨#[]⟩]) := al_File
  generalize aStride Tryd.prog 43 = s3 at halF
  obtain ⟨LA, hA1, hA2, hA3⟩ := hA
  have hLA : LA.length = L.length := by rw [← hA1, List.length_map]
  have hB := al_B
  refine CW_seq (CW_region ?_)
  simp only [zZ, reduceIte, Nat.reduceLT, Int.reduceToNat, Int.reduceLE, Int.reduceEq, Int.reduceLT, Nat.reduceEqDiff, Nat.reduceAdd, zTy, bA]
  obtain ⟨M1, hM1⟩ : ∃ M1, M1 = m.push (.cells false s1 [.int .i64 x0, .int .i64 x1, .int .i64 x2, .int .i64 x3, .slice a L.length ca]) := ⟨_, rfl⟩
  rw [← hM1]
  obtain ⟨p, hp⟩ : ∃ p, p = m.size + 1 := ⟨_, rfl⟩
  have hM1s : M1.size = p := by rw [hM1, Mem.size_push, hp]
  refine CW_seq (CW_region ?_)
  simp only [zZ, reduceIte, Nat.reduceLT, Int.reduceToNat, Int.reduceLE, Int.reduceEq, Int.reduceLT, Nat.reduceEqDiff, Nat.reduceAdd, zTy, hB, hM1s]
  obtain ⟨M0, hM0⟩ : ∃ M0, M0 = M1.push (.cells false 0 [.pointer none, .slice none 0 0]) := ⟨_, rfl⟩
  rw [← hM0]
  have hM0s : M0.size = p + 1 := by rw [hM0, Mem.size_push, hM1s]
  have hold0 : ∀ b y, m.get b = some y → M0.get b = some y := fun b y hb => by
    have := get_live hb
    rw [hM0, Mem.get_push_old (by omega), hM1, Mem.get_push_old this]; exact hb
  have hsc0 : M0.get m.size = some (.cells false s1 [.int .i64 x0, .int .i64 x1, .int .i64 x2, .int .i64 x3, .slice a L.length ca]) := by
    rw [hM0, Mem.get_push_old (by omega), hM1, Mem.get_push_new]
  have hB0 : BAt p M0 p [] := ⟨Nat.le_refl _, _, _, by
    have := Mem.get_push_new M1 (.cells false 0 [.pointer none, .slice none 0 0])
    rw [hM1s] at this
    rw [hM0]; exact this, .inl rfl, .inl ⟨rfl, rfl⟩⟩
  refine CW_seq (CW_region ?_)
  simp only [zZ, reduceIte, Nat.reduceLT, Int.reduceToNat, Int.reduceLE, Int.reduceEq, Int.reduceLT, Nat.reduceEqDiff, Nat.reduceAdd, zTy, vFunc]
  refine CW_seq (CW_region ?_)
  simp only [zZ, reduceIte, Nat.reduceLT, Int.reduceToNat, Int.reduceLE, Int.reduceEq, Int.reduceLT, Nat.reduceEqDiff, Nat.reduceAdd, zTy]
  refine CW_seq (CW_draw hmix 20 (by kernel_rfl) (by kernel_rfl) ?_)
  simp only [zZ, reduceIte, Nat.reduceLT, Int.reduceToNat, Int.reduceLE, Int.reduceEq, Int.reduceLT, Nat.reduceEqDiff, Nat.reduceAdd, zTy, hsc0]
  refine ⟨by kernel_rfl, _, itoa_spec x0 h0.1 h0.2 _, ?_⟩
  refine ⟨by decide, ?_⟩
  simp only [zZ, reduceIte, Nat.reduceLT, Int.reduceToNat, Int.reduceLE, Int.reduceEq, Int.reduceLT, Nat.reduceEqDiff, Nat.reduceAdd, zTy, hsc0]
  refine ⟨by kernel_rfl, _, itoa_spec x1 h1.1 h1.2 _, ?_⟩
  refine ⟨by decide, ?_⟩
  simp only [zZ, reduceIte, Nat.reduceLT, Int.reduceToNat, Int.reduceLE, Int.reduceEq, Int.reduceLT, Nat.reduceEqDiff, Nat.reduceAdd, zTy, hsc0]
  refine ⟨by kernel_rfl, _, itoa_spec x2 h2.1 h2.2 _, ?_⟩
  refine ⟨by decide, ?_⟩
  simp only [zZ, reduceIte, Nat.reduceLT, Int.reduceToNat, Int.reduceLE, Int.reduceEq, Int.reduceLT, Nat.reduceEqDiff, Nat.reduceAdd, zTy, hsc0]
  refine ⟨by kernel_rfl, _, itoa_spec x3 h3.1 h3.2 _, ?_⟩
  refine ⟨by decide, ?_⟩
  simp only [zZ, reduceIte, Nat.reduceLT, Int.reduceToNat, Int.reduceLE, Int.reduceEq, Int.reduceLT, Nat.reduceEqDiff, Nat.reduceAdd, zTy, hsc0, new_s5]
  obtain ⟨hd, hhd⟩ : ∃ hd, hd = lineL [[119, 111, 114, 108, 100], Lib.itoa x0, Lib.itoa x1, Lib.itoa x2, Lib.itoa x3] := ⟨_, rfl⟩
  have hT0 : T = hd ++ printB 0 L := by rw [hTe, hhd]; rfl
  have hlenT : ∀ t ws r, T = t ++ (lineL ws ++ r) → t.length + (lineL ws).length ≤ 140737488355328 := fun t ws r h => by
    rw [h] at hT
    simp only [List.length_append] at hT
    omega
  refine ⟨by kernel_rfl, _, put_new p p M0 [] [[119, 111, 114, 108, 100], Lib.itoa x0, Lib.itoa x1, Lib.itoa x2, Lib.itoa x3] hB0 (by simp) (by simp) (hlenT [] _ (printB 0 L) (by rw [hT0, hhd]; rfl)), ?_⟩
  rintro _ M2 ⟨rfl, hB2, hk2, hs2⟩
  rw [List.nil_append, ← hhd] at hB2
  simp only [zZ, reduceIte, Nat.reduceLT, Int.reduceToNat, Int.reduceLE, Int.reduceEq, Int.reduceLT, Nat.reduceEqDiff, Nat.reduceAdd, zTy]
  refine CW_seq (CW_region ?_)
  simp only [zZ, reduceIte, Nat.reduceLT, Int.reduceToNat, Int.reduceLE, Int.reduceEq, Int.reduceLT, Nat.reduceEqDiff, Nat.reduceAdd, zTy]
  refine CW_seq (CW_seq (CW_region ?_))
  simp only [zZ, reduceIte, Nat.reduceLT, Int.reduceToNat, Int.reduceLE, Int.reduceEq, Int.reduceLT, Nat.reduceEqDiff, Nat.reduceAdd, zTy]
  obtain ⟨c1, hc1⟩ : ∃ c : Value, c = .func (.func 19) #[] #[.pointer (some ⟨p, 0, none⟩)] := ⟨_, rfl⟩
  refine CW_block (MW_loop (fun j f M => ∃ (i : Nat) (t : List UInt8), i + j = L.length ∧ f = [(1, .pointer (some ⟨m.size, 0, none⟩)), (3, .pointer (some ⟨p, 0, none⟩)), (4, .func (.func 19) #[] #[.pointer (some ⟨p, 0, none⟩)]), (5, .func (.func 22) #[] #[]), (6, .func (.func 23) #[] #[]), (7, .int .i64 (i : Nat))] ∧
    Keeps p M0 M ∧ p < M.size ∧ BAt p M p t ∧ T = t ++ printB 0 (L.drop i)) L.length ?_ ?_)
  · refine ⟨[1, 3, 4, 5, 6, 7], ?_⟩
    simp only [zZ, reduceIte, Nat.reduceLT, Int.reduceToNat, Int.reduceLE, Int.reduceEq, Int.reduceLT, Nat.reduceEqDiff, Nat.reduceAdd, keepF]
    exact ⟨M2, Thin.refl _, 0, hd, by omega, rfl, hk2, by omega, hB2, by rw [hT0]; rfl⟩
  · rintro j f M ⟨i, t, hij, rfl, hk, hs, hb, hTt⟩
    have hsc : M.get m.size = some (.cells false s1 [.int .i64 x0, .int .i64 x1, .int .i64 x2, .int .i64 x3, .slice a L.length ca]) := hk.1 _ _ (by omega) hsc0
    refine CW_seq (CW_seq (CW_region ?_))
    simp only [zZ, reduceIte, Nat.reduceLT, Int.reduceToNat, Int.reduceLE, Int.reduceEq, Int.reduceLT, Nat.reduceEqDiff, Nat.reduceAdd, zTy, hsc]
    refine CW_cond (decide ((i : Int) < (L.length : Int))) (by rfl) (fun h => CW_skip ?_) (fun h => CW_exit ?_)
    · simp only [zZ, reduceIte, Nat.reduceLT, Int.reduceToNat, Int.reduceLE, Int.reduceEq, Int.reduceLT, Nat.reduceEqDiff, Nat.reduceAdd]
      have hil : i < L.length := by have := of_decide_eq_true h; omega
      have g0 : (0 : Int) ≤ (i : Int) := by omega
      have g1 : (i : Int) < (L.length : Int) := by omega
      obtain ⟨ga, ra, hpa, hga⟩ := hA3.at (by omega)
      have hgM : ∀ M', Keeps p M0 M' → M'.get ga = some (.cells ra 7 (LA.flatMap stepC)) := fun M' hk' => hk'.1 _ _ (by have := get_live hga; omega) (hold0 _ _ hga)
      obtain ⟨⟨y, V⟩, hX⟩ : ∃ A, LA[i]? = some A := ⟨_, List.getElem?_eq_getElem (by omega)⟩
      have hXL : L[i]? = some y := by rw [← hA1, List.getElem?_map, hX]; rfl
      have hyL : y ∈ L := List.mem_of_getElem? hXL
      have hyok := hok y hyL
      have hdr : L.drop i = y :: L.drop (i + 1) := drop_get hXL
      have hV := hA2 _ (List.mem_of_getElem? hX)
      simp only at hV
      obtain ⟨va, vc, rfl⟩ := hV.len
      have r1 : rowIn 7 (i * 7) (some (.cells ra 7 (LA.flatMap stepC))) = some (.agg #[.int .i64 y.kind, .int .i64 y.n, .slice va y.files.length vc, .string (str y.text), .bool y.drop, .int .i64 y.delay, .int .i64 y.copies]) := rowIn_at (n := 7) (fun a _ => stepC_len a) hX ra 7
      have ti : ∀ i' : Nat, i' < L.length → IntKind.i64.wrap ((i' : Int) + 1) = ((i' + 1 : Nat) : Int) := fun i' hi => by rw [wr (by omega) (by omega)]; omega
      subst hpa
      refine MW_mid (fun f M' => ∃ (i' : Nat) (t' : List UInt8), f = [(1, .pointer (some ⟨m.size, 0, none⟩)), (3, .pointer (some ⟨p, 0, none⟩)), (4, .func (.func 19) #[] #[.pointer (some ⟨p, 0, none⟩)]), (5, .func (.func 22) #[] #[]), (6, .func (.func 23) #[] #[]), (7, .int .i64 (i' : Nat))] ∧
        i ≤ i' ∧ i' < L.length ∧ Keeps p M0 M' ∧ p < M'.size ∧ BAt p M' p t' ∧ T = t' ++ printB 0 (L.drop (i' + 1))) ?_ ?_
      rotate_left
      · rintro f M' ⟨i', t', rfl, hi1, hi2, hk', hs', hb', hT'⟩
        refine CW_region ?_
        simp only [zZ, reduceIte, Nat.reduceLT, Int.reduceToNat, Int.reduceLE, Int.reduceEq, Int.reduceLT, Nat.reduceEqDiff, Nat.reduceAdd, zTy, ti i' hi2]
        refine ⟨[1, 3, 4, 5, 6, 7], ?_⟩
        simp only [zZ, reduceIte, Nat.reduceLT, Int.reduceToNat, Int.reduceLE, Int.reduceEq, Int.reduceLT, Nat.reduceEqDiff, Nat.reduceAdd, keepF]
        exact ⟨M', Thin.refl _, L.length - (i' + 1), ⟨i' + 1, t', by omega, rfl, hk', hs', hb', hT'⟩, by omega⟩
      · refine CW_block (CW_seq (CW_region ?_))
        simp only [zZ, reduceIte, Nat.reduceLT, Int.reduceToNat, Int.reduceLE, Int.reduceEq, Int.reduceLT, Nat.reduceEqDiff, Nat.reduceAdd, zTy, hsc, g0, g1, and_self, hgM M hk, r1, hal, Mem.get_push_new, push_set]
        obtain ⟨M3, hM3⟩ : ∃ M3, M3 = M.push (.cells false s2 [.int .i64 y.kind, .int .i64 y.n, .slice va y.files.length vc, .string (str y.text), .bool y.drop, .int .i64 y.delay, .int .i64 y.copies]) := ⟨_, rfl⟩
        rw [← hM3]
        have ho3 : ∀ b x, M.get b = some x → M3.get b = some x := fun b x hx => by rw [hM3, Mem.get_push_old (get_live hx)]; exact hx
        have hk3 : Keeps p M0 M3 := hk.trans (by rw [hM3]; exact Keeps.push _ _ _)
        have hs3 : M3.size = M.size + 1 := by rw [hM3, Mem.size_push]
        have hb3 : BAt p M3 p t := bat_keep hb ho3
        have hy3 : M3.get M.size = some (.cells false s2 [.int .i64 y.kind, .int .i64 y.n, .slice va y.files.length vc, .string (str y.text), .bool y.drop, .int .i64 y.delay, .int .i64 y.copies]) := by rw [hM3, Mem.get_push_new]
        have hfin : y.kind ≠ 1 → T = t ++ (stepLine y ++ printB 0 (L.drop (i + 1))) := fun h1 => by rw [hTt, hdr, printB, if_neg h1]
        clear hM3
        refine CW_seq (CW_region ?_)
        simp only [zZ, reduceIte, Nat.reduceLT, Int.reduceToNat, Int.reduceLE, Int.reduceEq, Int.reduceLT, Nat.reduceEqDiff, Nat.reduceAdd, zTy, hy3]
        refine CW_block (CW_seq (CW_region ?_))
        simp only [zZ, reduceIte, Nat.reduceLT, Int.reduceToNat, Int.reduceLE, Int.reduceEq, Int.reduceLT, Nat.reduceEqDiff, Nat.reduceAdd, zTy]
        refine CW_cond (y.kind == 0) (by rfl) (fun h => CW_seq (CW_region ?_)) (fun h => CW_seq (CW_region ?_))
        · simp only [zZ, reduceIte, Nat.reduceLT, Int.reduceToNat, Int.reduceLE, Int.reduceEq, Int.reduceLT, Nat.reduceEqDiff, Nat.reduceAdd, zTy, new_s1]
          have k0 : y.kind = 0 := by simpa using h
          obtain ⟨M5, hM5⟩ : ∃ M5, M5 = M3.push (.cells false 1 [.string ⟨#[112, 97, 99, 107]⟩]) := ⟨_, rfl⟩
          have hold5 : ∀ b x, M3.get b = some x → M5.get b = some x := fun b x hx => by rw [hM5, Mem.get_push_old (get_live hx)]; exact hx
          have hs5 : M5.size = M3.size + 1 := by rw [hM5, Mem.size_push]
          have hg5 : M5.get M3.size = some (.cells false 1 (([[112, 97, 99, 107]] : List (List UInt8)).map fun w => .string (str w))) := by rw [hM5, Mem.get_push_new]; rfl
          have hy5 := hold5 _ _ hy3
          rw [← hM5]
          clear hM5
          refine CW_seq (CW_seq (CW_region ?_))
          simp only [zZ, reduceIte, Nat.reduceLT, Int.reduceToNat, Int.reduceLE, Int.reduceEq, Int.reduceLT, Nat.reduceEqDiff, Nat.reduceAdd, zTy, hy5]
          refine CW_block (MW_loop (fun j f M' => ∃ (tt g : Nat), tt + j = y.files.length ∧ f = [(1, .pointer (some ⟨m.size, 0, none⟩)), (3, .pointer (some ⟨p, 0, none⟩)), (4, .func (.func 19) #[] #[.pointer (some ⟨p, 0, none⟩)]), (5, .func (.func 22) #[] #[]), (6, .func (.func 23) #[] #[]), (7, .int .i64 (i : Nat)),
              (9, .slice (some ⟨g, 0, none⟩) (tt + 1) (tt + 1)), (53, .slice va y.files.length vc), (54, .int .i64 (y.files.length : Nat)), (55, .int .i64 (tt : Nat))] ∧
            (∀ b x, M3.get b = some x → M'.get b = some x) ∧ M3.size ≤ g ∧ M3.size ≤ M'.size ∧ M'.get g = some (.cells false 1 (([112, 97, 99, 107] :: (y.files.take tt).map fileW).map fun w => .string (str w)))) y.files.length ?_ ?_)
          · refine ⟨[1, 3, 4, 5, 6, 7, 9, 53, 54, 55], ?_⟩
            simp only [zZ, reduceIte, Nat.reduceLT, Int.reduceToNat, Int.reduceLE, Int.reduceEq, Int.reduceLT, Nat.reduceEqDiff, Nat.reduceAdd, keepF]
            exact ⟨M5, Thin.refl _, 0, M3.size, by omega, rfl, hold5, Nat.le_refl _, by omega, hg5⟩
          · rintro j f M' ⟨tt, g, htj, rfl, hold', hg1, hms, hg⟩
            have hkM : Keeps p M0 M' := hk3.trans ⟨fun b x _ h => hold' b x h, fun b s cs h => hold' b _ h⟩
            refine CW_seq (CW_region ?_)
            simp only [zZ, reduceIte, Nat.reduceLT, Int.reduceToNat, Int.reduceLE, Int.reduceEq, Int.reduceLT, Nat.reduceEqDiff, Nat.reduceAdd, zTy]
            refine CW_seq (CW_cond (decide ((tt : Int) < (y.files.length : Int))) (by rfl) (fun h => CW_skip ?_) (fun h => CW_exit ?_))
            · simp only [zZ, reduceIte, Nat.reduceLT, Int.reduceToNat, Int.reduceLE, Int.reduceEq, Int.reduceLT, Nat.reduceEqDiff, Nat.reduceAdd]
              have htl : tt < y.files.length := by have := of_decide_eq_true h; omega
              have t0 : (0 : Int) ≤ (tt : Int) := by omega
              have t1 : (tt : Int) < (y.files.length : Int) := by omega
              obtain ⟨gv, rv, hva, hgv⟩ := hV.rd.at (by omega)
              have hgvM : M'.get gv = some (.cells rv 2 (y.files.flatMap fileC)) := hkM.1 _ _ (by have := get_live hgv; omega) (hold0 _ _ hgv)
              obtain ⟨A, hA⟩ : ∃ A, y.files[tt]? = some A := ⟨_, List.getElem?_eq_getElem htl⟩
              have hrow : rowIn 2 (tt * 2) (some (.cells rv 2 (y.files.flatMap fileC))) = some (.agg #[.string (str A.1), .string (str A.2)]) := rowIn_at (n := 2) (fun a _ => fileC_len a) hA rv 2
              have hAok := hyok.file A (List.mem_of_getElem? hA)
              have xi : IntKind.i64.wrap ((tt : Int) + 1) = ((tt + 1 : Nat) : Int) := by
                have := hyok.files
                rw [wr (by omega) (by omega)]; omega
              have hvx1 := hexV_len A.1
              have hvx2 := hexV_len A.2
              subst hva
              refine CW_seq (CW_block (CW_seq (CW_region ?_)))
              simp only [zZ, reduceIte, Nat.reduceLT, Int.reduceToNat, Int.reduceLE, Int.reduceEq, Int.reduceLT, Nat.reduceEqDiff, Nat.reduceAdd, zTy, t0, t1, and_self, hgvM, hrow, halF, Mem.get_push_new, push_set]
              obtain ⟨M6, hM6⟩ : ∃ M6, M6 = M'.push (.cells false s3 [.string (str A.1), .string (str A.2)]) := ⟨_, rfl⟩
              rw [← hM6]
              have hs6 : M6.size = M'.size + 1 := by rw [hM6, Mem.size_push]
              have hf6 : M6.get M'.size = some (.cells false s3 [.string (str A.1), .string (str A.2)]) := by rw [hM6, Mem.get_push_new]
              have hold6 : ∀ b x, M'.get b = some x → M6.get b = some x := fun b x hx => by rw [hM6, Mem.get_push_old (get_live hx)]; exact hx
              clear hM6
              refine CW_draw hmix 10 (by kernel_rfl) (by kernel_rfl) ?_
              simp only [zZ, reduceIte, Nat.reduceLT, Int.reduceToNat, Int.reduceLE, Int.reduceEq, Int.reduceLT, Nat.reduceEqDiff, Nat.reduceAdd, zTy, hf6]
              refine ⟨by kernel_rfl, _, hex_spec (str A.1) (by rw [Go.Proofs.YthcleiegefhmdaaDoor.str_size]; exact hAok.1) _, ?_⟩
              refine ⟨by decide, ?_⟩
              simp only [zZ, reduceIte, Nat.reduceLT, Int.reduceToNat, Int.reduceLE, Int.reduceEq, Int.reduceLT, Nat.reduceEqDiff, Nat.reduceAdd, zTy, hf6, str_data]
              have z1 : ∀ l : List UInt8, bsize (str l) = l.length := fun _ => rfl
              have z2 : bsize (⟨#[58]⟩ : ByteArray) = 1 := rfl
              refine ⟨by rw [z1, z2]; omega, ?_⟩
              rw [show bcat (str (hexV A.1)) ⟨#[58]⟩ = str (hexV A.1 ++ [58]) from rfl]
              refine ⟨by kernel_rfl, _, hex_spec (str A.2) (by rw [Go.Proofs.YthcleiegefhmdaaDoor.str_size]; exact hAok.2) _, ?_⟩
              refine ⟨by decide, ?_⟩
              simp only [zZ, reduceIte, Nat.reduceLT, Int.reduceToNat, Int.reduceLE, Int.reduceEq, Int.reduceLT, Nat.reduceEqDiff, Nat.reduceAdd, zTy, hf6, str_data]
              refine ⟨by rw [z1, z1, List.length_append, List.length_singleton]; omega, ?_⟩
              rw [show bcat (str (hexV A.1 ++ [58])) (str (hexV A.2)) = str (fileW A) from rfl]
              have hg6 := hold6 _ _ hg
              have hgl6 := get_live hg6
              have ha := gapp (N := 1) (k := 1) (n := tt + 1) (cs := ([112, 97, 99, 107] :: (y.files.take tt).map fileW).map fun w => .string (str w)) (news := [.string (str (fileW A))]) Tryd.underlying58 inf_Str Str_zero sz_Str rfl (M6.push (.cells false 1 [.string (str (fileW A))]))
                (src_block (c := 1) (ro := false) (s := 1) Tryd.underlying58 (Mem.get_push_new M6 _) rfl) (by decide) (by rw [Mem.get_push_old hgl6]; exact hg6) (by simp; omega) (by rw [Str_bytes]; have := hyok.files; omega) (by have := hyok.files; omega)
              rw [Mem.size_push] at ha
              simp only [zZ, reduceIte, Nat.reduceLT, Int.reduceToNat, Int.reduceLE, Int.reduceEq, Int.reduceLT, Nat.reduceEqDiff, Nat.reduceAdd, zTy, new_s1, ha]
              refine CW_region ?_
              simp only [zZ, reduceIte, Nat.reduceLT, Int.reduceToNat, Int.reduceLE, Int.reduceEq, Int.reduceLT, Nat.reduceEqDiff, Nat.reduceAdd, zTy, xi]
              refine ⟨[1, 3, 4, 5, 6, 7, 9, 53, 54, 55], ?_⟩
              simp only [zZ, reduceIte, Nat.reduceLT, Int.reduceToNat, Int.reduceLE, Int.reduceEq, Int.reduceLT, Nat.reduceEqDiff, Nat.reduceAdd, keepF]
              refine ⟨_, Thin.refl _, j - 1, ⟨tt + 1, M6.size + 1, by omega, rfl, fun b x hx => ?_, by omega, by simp only [Mem.size_push, Mem.size_set]; omega, ?_⟩, by omega⟩
              · have h1 := hold6 _ _ (hold' b x hx)
                have h2 := get_live hx
                rw [Mem.get_push_old (by rw [Mem.size_set, Mem.size_push]; have := get_live h1; omega), Mem.get_set_ne (by omega), Mem.get_push_old (get_live h1)]; exact h1
              · have := Mem.get_push_new ((M6.push (.cells false 1 [.string (str (fileW A))])).set g none) (.cells false 1 (([112, 97, 99, 107] :: (y.files.take tt).map fileW).map (fun w => .string (str w)) ++ [.string (str (fileW A))]))
                rw [Mem.size_set, Mem.size_push] at this
                rw [this, List.take_add_one, hA]
                simp
            · simp only [zZ, reduceIte, Nat.reduceLT, Int.reduceToNat, Int.reduceLE, Int.reduceEq, Int.reduceLT, Nat.reduceEqDiff, Nat.reduceAdd]
              have htl : tt = y.files.length := by have := of_decide_eq_false h; omega
              subst htl
              rw [List.take_length] at hg
              have e0 : stepLine y = lineL ([112, 97, 99, 107] :: y.files.map fileW) := by unfold stepLine; rw [if_pos k0]
              replace hfin := hfin (by omega)
              refine CW_region ?_
              simp only [zZ, reduceIte, Nat.reduceLT, Int.reduceToNat, Int.reduceLE, Int.reduceEq, Int.reduceLT, Nat.reduceEqDiff, Nat.reduceAdd, zTy]
              have hps := put_spec p p M' t ([112, 97, 99, 107] :: y.files.map fileW) g (y.files.length + 1) false (bat_keep hb3 hold') hg (by simp) (by simp; have := hyok.files; omega) (hlenT _ _ _ (hfin.trans (by rw [e0])))
              rw [List.length_cons, List.length_map] at hps
              refine ⟨by kernel_rfl, _, hps, ?_⟩
              rintro _ M4 ⟨rfl, hb4, hk4, hs4⟩
              simp only [zZ, reduceIte, Nat.reduceLT, Int.reduceToNat, Int.reduceLE, Int.reduceEq, Int.reduceLT, Nat.reduceEqDiff, Nat.reduceAdd, zTy]
              refine ⟨[1, 3, 4, 5, 6, 7], ?_⟩
              simp only [zZ, reduceIte, Nat.reduceLT, Int.reduceToNat, Int.reduceLE, Int.reduceEq, Int.reduceLT, Nat.reduceEqDiff, Nat.reduceAdd, keepF]
              exact ⟨M4, Thin.refl _, i, _, rfl, Nat.le_refl _, hil, hkM.trans hk4, by omega, hb4, by rw [hfin, e0, List.append_assoc]⟩
        have n0 : y.kind ≠ 0 := by simpa using h
        simp only [zZ, reduceIte, Nat.reduceLT, Int.reduceToNat, Int.reduceLE, Int.reduceEq, Int.reduceLT, Nat.reduceEqDiff, Nat.reduceAdd, zTy]
        refine CW_cond (y.kind == 1) (by rfl) (fun h => CW_seq (CW_region ?_)) (fun h => CW_seq (CW_seq (CW_region ?_)))
        · have k1 : y.kind = 1 := by simpa using h
          simp only [zZ, reduceIte, Nat.reduceLT, Int.reduceToNat, Int.reduceLE, Int.reduceEq, Int.reduceLT, Nat.reduceEqDiff, Nat.reduceAdd, zTy]
          refine CW_seq (CW_block (MW_loop (fun j f M' => ∃ (i' n : Nat) (z : StepL), i' + j = L.length ∧ f = [(1, .pointer (some ⟨m.size, 0, none⟩)), (3, .pointer (some ⟨p, 0, none⟩)), (4, .func (.func 19) #[] #[.pointer (some ⟨p, 0, none⟩)]), (5, .func (.func 22) #[] #[]), (6, .func (.func 23) #[] #[]), (7, .int .i64 (i' : Nat)), (12, .int .i64 ((n + 1 : Nat) : Int))] ∧
            M' = M3 ∧ i ≤ i' ∧ i' < L.length ∧ n + 1 ≤ 1000 ∧ L[i']? = some z ∧ z.kind = 1 ∧ T = t ++ printB n (L.drop i')) (L.length - i) ?_ ?_))
          · refine ⟨[1, 3, 4, 5, 6, 7, 12], ?_⟩
            simp only [zZ, reduceIte, Nat.reduceLT, Int.reduceToNat, Int.reduceLE, Int.reduceEq, Int.reduceLT, Nat.reduceEqDiff, Nat.reduceAdd, keepF]
            exact ⟨M3, Thin.refl _, i, 0, y, by omega, rfl, rfl, Nat.le_refl _, hil, by decide, hXL, k1, hTt⟩
          · rintro j f M' ⟨i', n, z, hij', rfl, rfl, hi1, hi2, hn, hz, hzk, hTz⟩
            have hgz := hgM M' hk3
            have hscz : M'.get m.size = some (.cells false s1 [.int .i64 x0, .int .i64 x1, .int .i64 x2, .int .i64 x3, .slice (some ⟨ga, 0, none⟩) L.length ca]) := ho3 _ _ hsc
            have hdz : L.drop i' = z :: L.drop (i' + 1) := drop_get hz
            have hn1 : IntKind.i64.wrap (((n + 1 : Nat) : Int) + 1) = ((n + 1 + 1 : Nat) : Int) := by rw [wr (by omega) (by omega)]; omega
            have stop : ¬ (tickNext (L.drop (i' + 1)) = true ∧ n + 1 < 1000) → T = t ++ (lineL [[116, 105, 99, 107], Lib.itoa ((n + 1 : Nat) : Int)] ++ printB 0 (L.drop (i' + 1))) := fun hno => by rw [hTz, hdz, printB, if_pos hzk, if_neg hno]
            have goon : (tickNext (L.drop (i' + 1)) = true ∧ n + 1 < 1000) → T = t ++ printB (n + 1) (L.drop (i' + 1)) := fun hno => by rw [hTz, hdz, printB, if_pos hzk, if_pos hno]
            refine CW_seq (CW_seq (CW_region ?_))
            by_cases q1 : i' + 1 < L.length
            · obtain ⟨⟨z2, V2⟩, hX2⟩ : ∃ A, LA[i' + 1]? = some A := ⟨_, List.getElem?_eq_getElem (by omega)⟩
              have hz2 : L[i' + 1]? = some z2 := by rw [← hA1, List.getElem?_map, hX2]; rfl
              have cz : (LA.flatMap stepC)[(i' + 1) * 7]? = some (.int .i64 z2.kind) := flatMap_get (fun a _ => stepC_len a) hX2 (o := 0) (by decide)
              have hd2 : L.drop (i' + 1) = z2 :: L.drop (i' + 1 + 1) := drop_get hz2
              have d1 : decide (((i' + 1 : Nat) : Int) < (L.length : Int)) = true := decide_eq_true (by omega)
              have u0 : (0 : Int) ≤ ((i' + 1 : Nat) : Int) := by omega
              have u1 : ((i' + 1 : Nat) : Int) < (L.length : Int) := by omega
              have hi2L := ti i' hi2
              by_cases q2 : z2.kind = 1
              · have d2 : (z2.kind == 1) = true := by rw [q2]; rfl
                by_cases q3 : n + 1 < 1000
                · have d3 : decide (((n + 1 : Nat) : Int) < 1000) = true := decide_eq_true (by omega)
                  simp only [zZ, reduceIte, Nat.reduceLT, Int.reduceToNat, Int.reduceLE, Int.reduceEq, Int.reduceLT, Nat.reduceEqDiff, Nat.reduceAdd, zTy, hscz, hi2L, d1, u0, u1, and_self, decide_true, hgz, cz, d2, d3]
                  refine CW_cond true (by rfl) (fun _ => CW_skip ?_) (fun h => by cases h)
                  simp only [zZ, reduceIte, Nat.reduceLT, Int.reduceToNat, Int.reduceLE, Int.reduceEq, Int.reduceLT, Nat.reduceEqDiff, Nat.reduceAdd]
                  refine CW_block (CW_region ?_)
                  simp only [zZ, reduceIte, Nat.reduceLT, Int.reduceToNat, Int.reduceLE, Int.reduceEq, Int.reduceLT, Nat.reduceEqDiff, Nat.reduceAdd, zTy, hi2L, hn1]
                  refine ⟨[1, 3, 4, 5, 6, 7, 12], ?_⟩
                  simp only [zZ, reduceIte, Nat.reduceLT, Int.reduceToNat, Int.reduceLE, Int.reduceEq, Int.reduceLT, Nat.reduceEqDiff, Nat.reduceAdd, keepF]
                  exact ⟨M', Thin.refl _, j - 1, ⟨i' + 1, n + 1, z2, by omega, rfl, rfl, by omega, q1, by omega, hz2, q2, goon ⟨by rw [hd2]; exact decide_eq_true q2, q3⟩⟩, by omega⟩
                · have d3 : decide (((n + 1 : Nat) : Int) < 1000) = false := decide_eq_false (by omega)
                  simp only [zZ, reduceIte, Nat.reduceLT, Int.reduceToNat, Int.reduceLE, Int.reduceEq, Int.reduceLT, Nat.reduceEqDiff, Nat.reduceAdd, zTy, hscz, hi2L, d1, u0, u1, and_self, decide_true, hgz, cz, d2, d3]
                  refine CW_cond false (by rfl) (fun h => by cases h) (fun _ => CW_exit ?_)
                  simp only [zZ, reduceIte, Nat.reduceLT, Int.reduceToNat, Int.reduceLE, Int.reduceEq, Int.reduceLT, Nat.reduceEqDiff, Nat.reduceAdd]
                  replace stop := stop (by exact fun h => q3 h.2)
                  refine CW_region ?_
                  simp only [zZ, reduceIte, Nat.reduceLT, Int.reduceToNat, Int.reduceLE, Int.reduceEq, Int.reduceLT, Nat.reduceEqDiff, Nat.reduceAdd, zTy]
                  refine ⟨by kernel_rfl, _, itoa_spec ((n + 1 : Nat) : Int) (by omega) (by omega) _, ?_⟩
                  rintro _ M5 ⟨rfl, e5⟩
                  replace e5 := e5.symm
                  subst e5
                  simp only [zZ, reduceIte, Nat.reduceLT, Int.reduceToNat, Int.reduceLE, Int.reduceEq, Int.reduceLT, Nat.reduceEqDiff, Nat.reduceAdd, zTy, new_s2]
                  refine ⟨by kernel_rfl, _, put_new p p M' t [[116, 105, 99, 107], Lib.itoa ((n + 1 : Nat) : Int)] hb3 (by simp) (by simp) (hlenT _ _ _ stop), ?_⟩
                  rintro _ M4 ⟨rfl, hb4, hk4, hs4⟩
                  simp only [zZ, reduceIte, Nat.reduceLT, Int.reduceToNat, Int.reduceLE, Int.reduceEq, Int.reduceLT, Nat.reduceEqDiff, Nat.reduceAdd, zTy]
                  refine ⟨[1, 3, 4, 5, 6, 7], ?_⟩
                  simp only [zZ, reduceIte, Nat.reduceLT, Int.reduceToNat, Int.reduceLE, Int.reduceEq, Int.reduceLT, Nat.reduceEqDiff, Nat.reduceAdd, keepF]
                  exact ⟨M4, Thin.refl _, i', _, rfl, hi1, hi2, hk3.trans hk4, by omega, hb4, by rw [stop, List.append_assoc]⟩
              · have d2 : (z2.kind == 1) = false := by simpa using q2
                simp only [zZ, reduceIte, Nat.reduceLT, Int.reduceToNat, Int.reduceLE, Int.reduceEq, Int.reduceLT, Nat.reduceEqDiff, Nat.reduceAdd, zTy, hscz, hi2L, d1, u0, u1, and_self, decide_true, hgz, cz, d2]
                refine CW_cond false (by rfl) (fun h => by cases h) (fun _ => CW_exit ?_)
                simp only [zZ, reduceIte, Nat.reduceLT, Int.reduceToNat, Int.reduceLE, Int.reduceEq, Int.reduceLT, Nat.reduceEqDiff, Nat.reduceAdd]
                replace stop := stop (by rw [hd2]; exact fun h => q2 (of_decide_eq_true h.1))
                refine CW_region ?_
                simp only [zZ, reduceIte, Nat.reduceLT, Int.reduceToNat, Int.reduceLE, Int.reduceEq, Int.reduceLT, Nat.reduceEqDiff, Nat.reduceAdd, zTy]
                refine ⟨by kernel_rfl, _, itoa_spec ((n + 1 : Nat) : Int) (by omega) (by omega) _, ?_⟩
                rintro _ M5 ⟨rfl, e5⟩
                replace e5 := e5.symm
                subst e5
                simp only [zZ, reduceIte, Nat.reduceLT, Int.reduceToNat, Int.reduceLE, Int.reduceEq, Int.reduceLT, Nat.reduceEqDiff, Nat.reduceAdd, zTy, new_s2]
                refine ⟨by kernel_rfl, _, put_new p p M' t [[116, 105, 99, 107], Lib.itoa ((n + 1 : Nat) : Int)] hb3 (by simp) (by simp) (hlenT _ _ _ stop), ?_⟩
                rintro _ M4 ⟨rfl, hb4, hk4, hs4⟩
                simp only [zZ, reduceIte, Nat.reduceLT, Int.reduceToNat, Int.reduceLE, Int.reduceEq, Int.reduceLT, Nat.reduceEqDiff, Nat.reduceAdd, zTy]
                refine ⟨[1, 3, 4, 5, 6, 7], ?_⟩
                simp only [zZ, reduceIte, Nat.reduceLT, Int.reduceToNat, Int.reduceLE, Int.reduceEq, Int.reduceLT, Nat.reduceEqDiff, Nat.reduceAdd, keepF]
                exact ⟨M4, Thin.refl _, i', _, rfl, hi1, hi2, hk3.trans hk4, by omega, hb4, by rw [stop, List.append_assoc]⟩
            · have d1 : decide (((i' + 1 : Nat) : Int) < (L.length : Int)) = false := decide_eq_false (by omega)
              simp only [zZ, reduceIte, Nat.reduceLT, Int.reduceToNat, Int.reduceLE, Int.reduceEq, Int.reduceLT, Nat.reduceEqDiff, Nat.reduceAdd, zTy, hscz, ti i' hi2, d1]
              refine CW_cond false (by rfl) (fun h => by cases h) (fun _ => CW_exit ?_)
              simp only [zZ, reduceIte, Nat.reduceLT, Int.reduceToNat, Int.reduceLE, Int.reduceEq, Int.reduceLT, Nat.reduceEqDiff, Nat.reduceAdd]
              replace stop := stop (by rw [List.drop_eq_nil_of_le (by omega)]; exact fun h => by cases h.1)
              refine CW_region ?_
              simp only [zZ, reduceIte, Nat.reduceLT, Int.reduceToNat, Int.reduceLE, Int.reduceEq, Int.reduceLT, Nat.reduceEqDiff, Nat.reduceAdd, zTy]
              refine ⟨by kernel_rfl, _, itoa_spec ((n + 1 : Nat) : Int) (by omega) (by omega) _, ?_⟩
              rintro _ M5 ⟨rfl, e5⟩
              replace e5 := e5.symm
              subst e5
              simp only [zZ, reduceIte, Nat.reduceLT, Int.reduceToNat, Int.reduceLE, Int.reduceEq, Int.reduceLT, Nat.reduceEqDiff, Nat.reduceAdd, zTy, new_s2]
              refine ⟨by kernel_rfl, _, put_new p p M' t [[116, 105, 99, 107], Lib.itoa ((n + 1 : Nat) : Int)] hb3 (by simp) (by simp) (hlenT _ _ _ stop), ?_⟩
              rintro _ M4 ⟨rfl, hb4, hk4, hs4⟩
              simp only [zZ, reduceIte, Nat.reduceLT, Int.reduceToNat, Int.reduceLE, Int.reduceEq, Int.reduceLT, Nat.reduceEqDiff, Nat.reduceAdd, zTy]
              refine ⟨[1, 3, 4, 5, 6, 7], ?_⟩
              simp only [zZ, reduceIte, Nat.reduceLT, Int.reduceToNat, Int.reduceLE, Int.reduceEq, Int.reduceLT, Nat.reduceEqDiff, Nat.reduceAdd, keepF]
              exact ⟨M4, Thin.refl _, i', _, rfl, hi1, hi2, hk3.trans hk4, by omega, hb4, by rw [stop, List.append_assoc]⟩
        have n1 : y.kind ≠ 1 := by simpa using h
        replace hfin := hfin n1
        have e23 : (y.kind = 2 ∨ y.kind = 3) → stepLine y = lineL [[102, 117, 115, 101], sideL (3 - y.kind), Lib.itoa y.n] := fun h => by unfold stepLine; rw [if_neg n0, if_pos h]
        simp only [zZ, reduceIte, Nat.reduceLT, Int.reduceToNat, Int.reduceLE, Int.reduceEq, Int.reduceLT, Nat.reduceEqDiff, Nat.reduceAdd, zTy]
        refine CW_cond (y.kind == 2) (by rfl) (fun h => CW_skip ?_) (fun h => CW_region ?_)
        · have k2 : y.kind = 2 := by simpa using h
          simp only [zZ, reduceIte, Nat.reduceLT, Int.reduceToNat, Int.reduceLE, Int.reduceEq, Int.reduceLT, Nat.reduceEqDiff, Nat.reduceAdd]
          refine CW_cond (y.kind == 2) (by rfl) (fun _ => ?_) (fun h => absurd k2 (by simpa using h))
          have w35 : IntKind.i64.wrap (3 - y.kind) = 3 - y.kind := wrs (by omega) (by omega)
          refine CW_draw hmix 11 (by kernel_rfl) (by kernel_rfl) ?_
          simp only [zZ, reduceIte, Nat.reduceLT, Int.reduceToNat, Int.reduceLE, Int.reduceEq, Int.reduceLT, Nat.reduceEqDiff, Nat.reduceAdd, zTy, hy3, w35]
          refine ⟨by kernel_rfl, _, sides_spec (3 - y.kind) (by omega) _, ?_⟩
          refine ⟨by decide, ?_⟩
          simp only [zZ, reduceIte, Nat.reduceLT, Int.reduceToNat, Int.reduceLE, Int.reduceEq, Int.reduceLT, Nat.reduceEqDiff, Nat.reduceAdd, zTy, hy3, w35]
          refine ⟨by kernel_rfl, _, itoa_spec y.n hyok.n.1 hyok.n.2 _, ?_⟩
          refine ⟨by decide, ?_⟩
          simp only [zZ, reduceIte, Nat.reduceLT, Int.reduceToNat, Int.reduceLE, Int.reduceEq, Int.reduceLT, Nat.reduceEqDiff, Nat.reduceAdd, zTy, hy3, w35, new_s3]
          refine ⟨by kernel_rfl, _, put_new p p M3 t [[102, 117, 115, 101], sideL (3 - y.kind), Lib.itoa y.n] hb3 (by simp) (by simp) (hlenT _ _ _ (hfin.trans (by rw [e23 (.inl k2)]))), ?_⟩
          rintro _ M4 ⟨rfl, hb4, hk4, hs4⟩
          simp only [zZ, reduceIte, Nat.reduceLT, Int.reduceToNat, Int.reduceLE, Int.reduceEq, Int.reduceLT, Nat.reduceEqDiff, Nat.reduceAdd, zTy]
          refine ⟨[1, 3, 4, 5, 6, 7], ?_⟩
          simp only [zZ, reduceIte, Nat.reduceLT, Int.reduceToNat, Int.reduceLE, Int.reduceEq, Int.reduceLT, Nat.reduceEqDiff, Nat.reduceAdd, keepF]
          exact ⟨M4, Thin.refl _, i, _, rfl, Nat.le_refl _, hil, hk3.trans hk4, by omega, hb4, by rw [hfin, e23 (.inl k2), List.append_assoc]⟩
        have n2 : y.kind ≠ 2 := by simpa using h
        simp only [zZ, reduceIte, Nat.reduceLT, Int.reduceToNat, Int.reduceLE, Int.reduceEq, Int.reduceLT, Nat.reduceEqDiff, Nat.reduceAdd, zTy]
        refine CW_cond (y.kind == 3) (by rfl) (fun h => ?_) (fun h => CW_seq (CW_seq (CW_region ?_)))
        · have k3 : y.kind = 3 := by simpa using h
          have w35 : IntKind.i64.wrap (3 - y.kind) = 3 - y.kind := wrs (by omega) (by omega)
          refine CW_draw hmix 11 (by kernel_rfl) (by kernel_rfl) ?_
          simp only [zZ, reduceIte, Nat.reduceLT, Int.reduceToNat, Int.reduceLE, Int.reduceEq, Int.reduceLT, Nat.reduceEqDiff, Nat.reduceAdd, zTy, hy3, w35]
          refine ⟨by kernel_rfl, _, sides_spec (3 - y.kind) (by omega) _, ?_⟩
          refine ⟨by decide, ?_⟩
          simp only [zZ, reduceIte, Nat.reduceLT, Int.reduceToNat, Int.reduceLE, Int.reduceEq, Int.reduceLT, Nat.reduceEqDiff, Nat.reduceAdd, zTy, hy3, w35]
          refine ⟨by kernel_rfl, _, itoa_spec y.n hyok.n.1 hyok.n.2 _, ?_⟩
          refine ⟨by decide, ?_⟩
          simp only [zZ, reduceIte, Nat.reduceLT, Int.reduceToNat, Int.reduceLE, Int.reduceEq, Int.reduceLT, Nat.reduceEqDiff, Nat.reduceAdd, zTy, hy3, w35, new_s3]
          refine ⟨by kernel_rfl, _, put_new p p M3 t [[102, 117, 115, 101], sideL (3 - y.kind), Lib.itoa y.n] hb3 (by simp) (by simp) (hlenT _ _ _ (hfin.trans (by rw [e23 (.inr k3)]))), ?_⟩
          rintro _ M4 ⟨rfl, hb4, hk4, hs4⟩
          simp only [zZ, reduceIte, Nat.reduceLT, Int.reduceToNat, Int.reduceLE, Int.reduceEq, Int.reduceLT, Nat.reduceEqDiff, Nat.reduceAdd, zTy]
          refine ⟨[1, 3, 4, 5, 6, 7], ?_⟩
          simp only [zZ, reduceIte, Nat.reduceLT, Int.reduceToNat, Int.reduceLE, Int.reduceEq, Int.reduceLT, Nat.reduceEqDiff, Nat.reduceAdd, keepF]
          exact ⟨M4, Thin.refl _, i, _, rfl, Nat.le_refl _, hil, hk3.trans hk4, by omega, hb4, by rw [hfin, e23 (.inr k3), List.append_assoc]⟩
        have n3 : y.kind ≠ 3 := by simpa using h
        have e45 : (y.kind = 4 ∨ y.kind = 5) → stepLine y = lineL [[99, 114, 97, 115, 104], sideL (5 - y.kind), Lib.itoa y.n] := fun h => by unfold stepLine; rw [if_neg n0, if_neg (by omega), if_pos h]
        simp only [zZ, reduceIte, Nat.reduceLT, Int.reduceToNat, Int.reduceLE, Int.reduceEq, Int.reduceLT, Nat.reduceEqDiff, Nat.reduceAdd, zTy]
        refine CW_cond (y.kind == 4) (by rfl) (fun h => CW_skip ?_) (fun h => CW_region ?_)
        · have k2 : y.kind = 4 := by simpa using h
          simp only [zZ, reduceIte, Nat.reduceLT, Int.reduceToNat, Int.reduceLE, Int.reduceEq, Int.reduceLT, Nat.reduceEqDiff, Nat.reduceAdd]
          refine CW_cond (y.kind == 4) (by rfl) (fun _ => ?_) (fun h => absurd k2 (by simpa using h))
          have w35 : IntKind.i64.wrap (5 - y.kind) = 5 - y.kind := wrs (by omega) (by omega)
          refine CW_draw hmix 11 (by kernel_rfl) (by kernel_rfl) ?_
          simp only [zZ, reduceIte, Nat.reduceLT, Int.reduceToNat, Int.reduceLE, Int.reduceEq, Int.reduceLT, Nat.reduceEqDiff, Nat.reduceAdd, zTy, hy3, w35]
          refine ⟨by kernel_rfl, _, sides_spec (5 - y.kind) (by omega) _, ?_⟩
          refine ⟨by decide, ?_⟩
          simp only [zZ, reduceIte, Nat.reduceLT, Int.reduceToNat, Int.reduceLE, Int.reduceEq, Int.reduceLT, Nat.reduceEqDiff, Nat.reduceAdd, zTy, hy3, w35]
          refine ⟨by kernel_rfl, _, itoa_spec y.n hyok.n.1 hyok.n.2 _, ?_⟩
          refine ⟨by decide, ?_⟩
          simp only [zZ, reduceIte, Nat.reduceLT, Int.reduceToNat, Int.reduceLE, Int.reduceEq, Int.reduceLT, Nat.reduceEqDiff, Nat.reduceAdd, zTy, hy3, w35, new_s3]
          refine ⟨by kernel_rfl, _, put_new p p M3 t [[99, 114, 97, 115, 104], sideL (5 - y.kind), Lib.itoa y.n] hb3 (by simp) (by simp) (hlenT _ _ _ (hfin.trans (by rw [e45 (.inl k2)]))), ?_⟩
          rintro _ M4 ⟨rfl, hb4, hk4, hs4⟩
          simp only [zZ, reduceIte, Nat.reduceLT, Int.reduceToNat, Int.reduceLE, Int.reduceEq, Int.reduceLT, Nat.reduceEqDiff, Nat.reduceAdd, zTy]
          refine ⟨[1, 3, 4, 5, 6, 7], ?_⟩
          simp only [zZ, reduceIte, Nat.reduceLT, Int.reduceToNat, Int.reduceLE, Int.reduceEq, Int.reduceLT, Nat.reduceEqDiff, Nat.reduceAdd, keepF]
          exact ⟨M4, Thin.refl _, i, _, rfl, Nat.le_refl _, hil, hk3.trans hk4, by omega, hb4, by rw [hfin, e45 (.inl k2), List.append_assoc]⟩
        have n4 : y.kind ≠ 4 := by simpa using h
        simp only [zZ, reduceIte, Nat.reduceLT, Int.reduceToNat, Int.reduceLE, Int.reduceEq, Int.reduceLT, Nat.reduceEqDiff, Nat.reduceAdd, zTy]
        refine CW_cond (y.kind == 5) (by rfl) (fun h => ?_) (fun h => CW_seq (CW_region ?_))
        · have k3 : y.kind = 5 := by simpa using h
          have w35 : IntKind.i64.wrap (5 - y.kind) = 5 - y.kind := wrs (by omega) (by omega)
          refine CW_draw hmix 11 (by kernel_rfl) (by kernel_rfl) ?_
          simp only [zZ, reduceIte, Nat.reduceLT, Int.reduceToNat, Int.reduceLE, Int.reduceEq, Int.reduceLT, Nat.reduceEqDiff, Nat.reduceAdd, zTy, hy3, w35]
          refine ⟨by kernel_rfl, _, sides_spec (5 - y.kind) (by omega) _, ?_⟩
          refine ⟨by decide, ?_⟩
          simp only [zZ, reduceIte, Nat.reduceLT, Int.reduceToNat, Int.reduceLE, Int.reduceEq, Int.reduceLT, Nat.reduceEqDiff, Nat.reduceAdd, zTy, hy3, w35]
          refine ⟨by kernel_rfl, _, itoa_spec y.n hyok.n.1 hyok.n.2 _, ?_⟩
          refine ⟨by decide, ?_⟩
          simp only [zZ, reduceIte, Nat.reduceLT, Int.reduceToNat, Int.reduceLE, Int.reduceEq, Int.reduceLT, Nat.reduceEqDiff, Nat.reduceAdd, zTy, hy3, w35, new_s3]
          refine ⟨by kernel_rfl, _, put_new p p M3 t [[99, 114, 97, 115, 104], sideL (5 - y.kind), Lib.itoa y.n] hb3 (by simp) (by simp) (hlenT _ _ _ (hfin.trans (by rw [e45 (.inr k3)]))), ?_⟩
          rintro _ M4 ⟨rfl, hb4, hk4, hs4⟩
          simp only [zZ, reduceIte, Nat.reduceLT, Int.reduceToNat, Int.reduceLE, Int.reduceEq, Int.reduceLT, Nat.reduceEqDiff, Nat.reduceAdd, zTy]
          refine ⟨[1, 3, 4, 5, 6, 7], ?_⟩
          simp only [zZ, reduceIte, Nat.reduceLT, Int.reduceToNat, Int.reduceLE, Int.reduceEq, Int.reduceLT, Nat.reduceEqDiff, Nat.reduceAdd, keepF]
          exact ⟨M4, Thin.refl _, i, _, rfl, Nat.le_refl _, hil, hk3.trans hk4, by omega, hb4, by rw [hfin, e45 (.inr k3), List.append_assoc]⟩
        have n5 : y.kind ≠ 5 := by simpa using h
        simp only [zZ, reduceIte, Nat.reduceLT, Int.reduceToNat, Int.reduceLE, Int.reduceEq, Int.reduceLT, Nat.reduceEqDiff, Nat.reduceAdd, zTy]
        refine CW_cond (y.kind == 6) (by rfl) (fun h => ?_) (fun h => CW_seq (CW_region ?_))
        · have k3 : y.kind = 6 := by simpa using h
          have e6 : stepLine y = lineL [[105, 110, 106, 101, 99, 116], sideL (bits BinOp.and IntKind.i64 y.n 1), hexV y.text, Lib.itoa y.delay] := by unfold stepLine; rw [if_neg n0, if_neg (by omega), if_neg (by omega), if_pos k3]
          refine CW_draw hmix 15 (by kernel_rfl) (by kernel_rfl) ?_
          simp only [zZ, reduceIte, Nat.reduceLT, Int.reduceToNat, Int.reduceLE, Int.reduceEq, Int.reduceLT, Nat.reduceEqDiff, Nat.reduceAdd, zTy, hy3]
          refine ⟨by kernel_rfl, _, sides_spec (bits BinOp.and IntKind.i64 y.n 1) (bit_one y.n hyok.n) _, ?_⟩
          refine ⟨by decide, ?_⟩
          simp only [zZ, reduceIte, Nat.reduceLT, Int.reduceToNat, Int.reduceLE, Int.reduceEq, Int.reduceLT, Nat.reduceEqDiff, Nat.reduceAdd, zTy, hy3]
          refine ⟨by kernel_rfl, _, hex_spec (str y.text) (by rw [Go.Proofs.YthcleiegefhmdaaDoor.str_size]; exact hyok.text) _, ?_⟩
          refine ⟨by decide, ?_⟩
          simp only [zZ, reduceIte, Nat.reduceLT, Int.reduceToNat, Int.reduceLE, Int.reduceEq, Int.reduceLT, Nat.reduceEqDiff, Nat.reduceAdd, zTy, hy3]
          refine ⟨by kernel_rfl, _, itoa_spec y.delay hyok.delay.1 hyok.delay.2 _, ?_⟩
          refine ⟨by decide, ?_⟩
          simp only [zZ, reduceIte, Nat.reduceLT, Int.reduceToNat, Int.reduceLE, Int.reduceEq, Int.reduceLT, Nat.reduceEqDiff, Nat.reduceAdd, zTy, hy3, str_data, new_s4]
          refine ⟨by kernel_rfl, _, put_new p p M3 t [[105, 110, 106, 101, 99, 116], sideL (bits BinOp.and IntKind.i64 y.n 1), hexV y.text, Lib.itoa y.delay] hb3 (by simp) (by simp) (hlenT _ _ _ (hfin.trans (by rw [e6]))), ?_⟩
          rintro _ M4 ⟨rfl, hb4, hk4, hs4⟩
          simp only [zZ, reduceIte, Nat.reduceLT, Int.reduceToNat, Int.reduceLE, Int.reduceEq, Int.reduceLT, Nat.reduceEqDiff, Nat.reduceAdd, zTy]
          refine ⟨[1, 3, 4, 5, 6, 7], ?_⟩
          simp only [zZ, reduceIte, Nat.reduceLT, Int.reduceToNat, Int.reduceLE, Int.reduceEq, Int.reduceLT, Nat.reduceEqDiff, Nat.reduceAdd, keepF]
          exact ⟨M4, Thin.refl _, i, _, rfl, Nat.le_refl _, hil, hk3.trans hk4, by omega, hb4, by rw [hfin, e6, List.append_assoc]⟩
        have n6 : y.kind ≠ 6 := by simpa using h
        simp only [zZ, reduceIte, Nat.reduceLT, Int.reduceToNat, Int.reduceLE, Int.reduceEq, Int.reduceLT, Nat.reduceEqDiff, Nat.reduceAdd, zTy]
        refine CW_cond (y.kind == 7) (by rfl) (fun h => CW_seq (CW_region ?_)) (fun h => CW_skip ?_)
        · have k7 : y.kind = 7 := by simpa using h
          simp only [zZ, reduceIte, Nat.reduceLT, Int.reduceToNat, Int.reduceLE, Int.reduceEq, Int.reduceLT, Nat.reduceEqDiff, Nat.reduceAdd, zTy, hy3]
          refine CW_cond y.drop (by rfl) (fun h => CW_region ?_) (fun h => ?_)
          · have e7 : stepLine y = lineL [[102, 97, 116, 101], [100, 114, 111, 112]] := by unfold stepLine; rw [if_neg n0, if_neg (by omega), if_neg (by omega), if_neg n6, if_pos k7, if_pos h]
            simp only [zZ, reduceIte, Nat.reduceLT, Int.reduceToNat, Int.reduceLE, Int.reduceEq, Int.reduceLT, Nat.reduceEqDiff, Nat.reduceAdd, zTy, new_s2]
            refine ⟨by kernel_rfl, _, put_new p p M3 t [[102, 97, 116, 101], [100, 114, 111, 112]] hb3 (by simp) (by simp) (hlenT _ _ _ (hfin.trans (by rw [e7]))), ?_⟩
            rintro _ M4 ⟨rfl, hb4, hk4, hs4⟩
            simp only [zZ, reduceIte, Nat.reduceLT, Int.reduceToNat, Int.reduceLE, Int.reduceEq, Int.reduceLT, Nat.reduceEqDiff, Nat.reduceAdd, zTy]
            refine ⟨[1, 3, 4, 5, 6, 7], ?_⟩
            simp only [zZ, reduceIte, Nat.reduceLT, Int.reduceToNat, Int.reduceLE, Int.reduceEq, Int.reduceLT, Nat.reduceEqDiff, Nat.reduceAdd, keepF]
            exact ⟨M4, Thin.refl _, i, _, rfl, Nat.le_refl _, hil, hk3.trans hk4, by omega, hb4, by rw [hfin, e7, List.append_assoc]⟩
          · have e7 : stepLine y = lineL [[102, 97, 116, 101], Lib.itoa y.delay, Lib.itoa y.copies] := by unfold stepLine; rw [if_neg n0, if_neg (by omega), if_neg (by omega), if_neg n6, if_pos k7, if_neg (by rw [h]; decide)]
            refine CW_draw hmix 12 (by kernel_rfl) (by kernel_rfl) ?_
            simp only [zZ, reduceIte, Nat.reduceLT, Int.reduceToNat, Int.reduceLE, Int.reduceEq, Int.reduceLT, Nat.reduceEqDiff, Nat.reduceAdd, zTy, hy3]
            refine ⟨by kernel_rfl, _, itoa_spec y.delay hyok.delay.1 hyok.delay.2 _, ?_⟩
            refine ⟨by decide, ?_⟩
            simp only [zZ, reduceIte, Nat.reduceLT, Int.reduceToNat, Int.reduceLE, Int.reduceEq, Int.reduceLT, Nat.reduceEqDiff, Nat.reduceAdd, zTy, hy3]
            refine ⟨by kernel_rfl, _, itoa_spec y.copies hyok.copies.1 hyok.copies.2 _, ?_⟩
            refine ⟨by decide, ?_⟩
            simp only [zZ, reduceIte, Nat.reduceLT, Int.reduceToNat, Int.reduceLE, Int.reduceEq, Int.reduceLT, Nat.reduceEqDiff, Nat.reduceAdd, zTy, hy3, new_s3]
            refine ⟨by kernel_rfl, _, put_new p p M3 t [[102, 97, 116, 101], Lib.itoa y.delay, Lib.itoa y.copies] hb3 (by simp) (by simp) (hlenT _ _ _ (hfin.trans (by rw [e7]))), ?_⟩
            rintro _ M4 ⟨rfl, hb4, hk4, hs4⟩
            simp only [zZ, reduceIte, Nat.reduceLT, Int.reduceToNat, Int.reduceLE, Int.reduceEq, Int.reduceLT, Nat.reduceEqDiff, Nat.reduceAdd, zTy]
            refine ⟨[1, 3, 4, 5, 6, 7], ?_⟩
            simp only [zZ, reduceIte, Nat.reduceLT, Int.reduceToNat, Int.reduceLE, Int.reduceEq, Int.reduceLT, Nat.reduceEqDiff, Nat.reduceAdd, keepF]
            exact ⟨M4, Thin.refl _, i, _, rfl, Nat.le_refl _, hil, hk3.trans hk4, by omega, hb4, by rw [hfin, e7, List.append_assoc]⟩
        have n7 : y.kind ≠ 7 := by simpa using h
        have e8 : stepLine y = [] := by unfold stepLine; rw [if_neg n0, if_neg (by omega), if_neg (by omega), if_neg n6, if_neg n7]
        simp only [zZ, reduceIte, Nat.reduceLT, Int.reduceToNat, Int.reduceLE, Int.reduceEq, Int.reduceLT, Nat.reduceEqDiff, Nat.reduceAdd, zTy]
        refine ⟨[1, 3, 4, 5, 6, 7], ?_⟩
        simp only [zZ, reduceIte, Nat.reduceLT, Int.reduceToNat, Int.reduceLE, Int.reduceEq, Int.reduceLT, Nat.reduceEqDiff, Nat.reduceAdd, keepF]
        exact ⟨M3, Thin.refl _, i, t, rfl, Nat.le_refl _, hil, hk3, by omega, hb3, by rw [hfin, e8, List.nil_append]⟩
    · simp only [zZ, reduceIte, Nat.reduceLT, Int.reduceToNat, Int.reduceLE, Int.reduceEq, Int.reduceLT, Nat.reduceEqDiff, Nat.reduceAdd]
      have hil : i = L.length := by have := of_decide_eq_false h; omega
      subst hil
      refine CW_seq (CW_region ?_)
      simp only [zZ, reduceIte, Nat.reduceLT, Int.reduceToNat, Int.reduceLE, Int.reduceEq, Int.reduceLT, Nat.reduceEqDiff, Nat.reduceAdd, zTy]
      refine ⟨by kernel_rfl, _, bstr_spec p p M t hb, ?_⟩
      rintro _ M3 ⟨rfl, hk3⟩
      simp only [zZ, reduceIte, Nat.reduceLT, Int.reduceToNat, Int.reduceLE, Int.reduceEq, Int.reduceLT, Nat.reduceEqDiff, Nat.reduceAdd, zTy]
      refine CW_ret ?_
      simp only [zZ, reduceIte, Nat.reduceLT, Int.reduceToNat, Int.reduceLE, Int.reduceEq, Int.reduceLT, Nat.reduceEqDiff, Nat.reduceAdd, zTy, mEnd, sAnswer, sAnswer.sRes]
      have hTe2 : T = t := by rw [hTt, List.drop_length]; simp [printB]
      rw [hTe2]
      exact ⟨M3, Thin.refl _, rfl, fun b y _ hy => hk3.1 b y (by have := get_live hy; omega) (hk.1 b y (by have := get_live hy; omega) (hold0 b y hy)), fun b s cs hy => hk3.2 b s cs (hk.2 b s cs (hold0 _ _ hy))⟩
end Go.Proofs.YthcleiegefhmdaaDoor
namespace Go.Proofs.YthcleiegefhmdaaDoor
open Go Go.RowKit Go.Shelf
attribute [local go_sem] Oper.semAt_some
set_option maxRecDepth 100000 in
set_option maxHeartbeats 1000000 in
theorem parts_in (F : Fence) (n : Nat) (hf : F.fn 72) (hro : F.round = none) (s : ByteArray) (w : World) :
    CallsIn F n Tryd.prog 72 #[.string s] w fun e w' => e = .returned (.func (.func 81) #[] #[.pointer (some ⟨w.heap.size, 0, none⟩)]) ∧ w' = w.alloc (.cells #[.string s] 9) := by
  refine callsIn_of_wp Tryd.func72 rfl hf ?_ hro
  simp only [Tryd.ntmps72, List.size_toArray, List.length_cons, List.length_nil, Nat.reduceAdd, Nat.reduceSub, Array.replicate_succ, Array.replicate_zero, List.push_toArray, List.append_toArray, List.nil_append, List.cons_append]
  gi_wp2
  go_ret
  exact ⟨rfl, rfl⟩
theorem toList_str (x : List UInt8) : (str x).toList = x := Lib.toList_data _
def badP (x : List UInt8) : Bool := decide (x = []) || decide (x = [46]) || decide (x = [46, 46])
theorem cut1_split (r : List UInt8) : (∃ a b, r = a ++ 47 :: b ∧ cut1 47 r [] = (a, b, true) ∧ pieces 47 r [] = a :: pieces 47 b []) ∨ (cut1 47 r [] = (r, [], false) ∧ pieces 47 r [] = [r]) := by
  rcases index_miss r 47 with h | ⟨a, b, h1, h2, _⟩
  · have hn := index_not r 47 h
    exact .inr ⟨by rw [cut1_not 47 r _ hn]; rfl, by rw [pieces_not 47 r _ hn]; rfl⟩
  · refine .inl ⟨a, b, h1, ?_, ?_⟩
    · rw [h1, cut1_at 47 a b _ h2]; rfl
    · rw [h1, pieces_at 47 a b _ h2]; rfl
def boxLen (B : Nat) (W : World) : Nat := match W.cell? ⟨B, 0, none⟩ with
  | some (.string s) => s.size
  | _ => 0
theorem boxLen_eq {B : Nat} {W : World} {r : List UInt8} (h : W.cell? ⟨B, 0, none⟩ = some (.string (str r))) : boxLen B W = r.length := by
  unfold boxLen; rw [h]; exact str_size r
set_option maxRecDepth 100000 in
set_option maxHeartbeats 2000000 in
theorem iter_in (n : Nat) (l B : Nat) (k : Int) (J J2 : List UInt8 → World → Prop) (Jx : World → Prop)
    (hJb : ∀ r W, J r W → W.cell? ⟨B, 0, none⟩ = some (.string (str r)) ∧ W.cell? ⟨0, 0, none⟩ = some (.int .i64 k) ∧ r.length ≤ 1000000)
    (hJ2b : ∀ r W, J2 r W → W.cell? ⟨B, 0, none⟩ = some (.string (str r)) ∧ W.frozen? ⟨B, 0, none⟩ = false)
    (hJd : ∀ r W d, J r W → J r (W.drewN d))
    (hJs : ∀ r a b W, J2 r W → badP a = false → r = a ++ 47 :: b → cut1 47 r [] = (a, b, true) → J b (W.setCell ⟨B, 0, none⟩ (.string (str b))))
    (hY : ∀ r W, J r W → YieldAt Fence.wide (n - 1) Tryd.prog l #[.string (str (cut1 47 r []).1)] W fun e W' => (e = .returned (.bool true) ∧ badP (cut1 47 r []).1 = false ∧ J2 r W') ∨ (e = .returned (.bool false) ∧ Jx W'))
    (s : List UInt8) (w : World) (h0 : J s w) :
    CallsIn Fence.wide n Tryd.prog 81 #[.func (.yield l) #[] #[], .pointer (some ⟨B, 0, none⟩)] w fun e W => (∃ v, e = .returned v) ∧ ((∃ r, cut1 47 r [] = (r, [], false) ∧ badP r = false ∧ J2 r W) ∨ Jx W) := by
  refine callsIn_of_wp Tryd.func81 rfl trivial ?_ rfl
  simp only [Tryd.ntmps81, List.size_toArray, List.length_cons, List.length_nil, Nat.reduceAdd, Nat.reduceSub, Array.replicate_succ, Array.replicate_zero, List.push_toArray, List.append_toArray, List.nil_append, List.cons_append]
  gi_wp2
  gi_loopw [3] (fun _ wr => ∃ r, J r wr) (fun _ wr => boxLen B wr)
  case atStart => exact ⟨s, h0⟩
  case round =>
    obtain ⟨r, hJ⟩ := hrel
    obtain ⟨hb, hk, hr⟩ := hJb r wr hJ
    have hcut := Tryd.strings_Cut (str r) ⟨#[47]⟩ k wr (by rw [str_size]; omega) hk
    have e1 : Lib.cut (str r).data.toList (⟨#[47]⟩ : ByteArray).data.toList = cut1 47 r [] := cut_eq r 47
    rw [e1] at hcut
    have hlen := boxLen_eq hb
    have hY1 := hY r
    obtain ⟨x, y, ok, hc⟩ : ∃ x y ok, cut1 47 r [] = (x, y, ok) := ⟨_, _, _, rfl⟩
    rw [hc] at hcut hY1
    simp only at hcut hY1
    replace hcut : Calls Tryd.prog 46 #[.string (str r), .string ⟨#[47]⟩] wr fun e w' => e = .returned (.tuple #[.string (str x), .string (str y), .bool ok]) ∧ ∃ d, w' = wr.drewN d := hcut
    have arm : ∀ {P : Prop}, P → Fence.wide.fn 46 ∧ (Fence.wide.depth.isSome = true → 1 ≤ n) ∧ P := fun h => ⟨trivial, (fun h => by cases h), h⟩
    have hYd := fun d => hY1 _ (hJd _ _ d hJ)
    clear hY1
    cases ok
    · gi_wp2_with (first
        | (refine arm ?_; refine (callsIn_wide.2 hcut).mono ?_; rintro e w1 ⟨rfl, d, rfl⟩; obtain ⟨fn, tmps, assign, body, hy, hR⟩ := hYd d))
      refine ⟨(fun h => by cases h), ?_⟩
      refine hR.mono ?_
      rintro e W3 (⟨rfl, hg, hJ3⟩ | ⟨rfl, hJx⟩)
      · gi_wp2
        refine bodyPost_ret (results_none rfl _ _ _) rfl ?_
        refine ⟨⟨_, rfl⟩, .inl ⟨r, ?_, ?_, hJ3⟩⟩
        · rcases cut1_split r with ⟨a, b, _, h, _⟩ | ⟨h, _⟩
          · rw [hc] at h; cases h
          · exact h
        · rcases cut1_split r with ⟨a, b, _, h, _⟩ | ⟨h, _⟩
          · rw [hc] at h; cases h
          · rw [hc] at h; cases h; exact hg
      · gi_wp2
        refine bodyPost_ret (results_none rfl _ _ _) rfl ?_
        exact ⟨⟨_, rfl⟩, .inr hJx⟩
    · gi_wp2_with (first
        | (refine arm ?_; refine (callsIn_wide.2 hcut).mono ?_; rintro e w1 ⟨rfl, d, rfl⟩; obtain ⟨fn, tmps, assign, body, hy, hR⟩ := hYd d))
      refine ⟨(fun h => by cases h), ?_⟩
      refine hR.mono ?_
      rintro e W3 (⟨rfl, hg, hJ3⟩ | ⟨rfl, hJx⟩)
      · obtain ⟨hb3, hf3⟩ := hJ2b r W3 hJ3
        gi_wp2
        have hsp : r = x ++ 47 :: y := by
          rcases cut1_split r with ⟨a, b, h1, h, _⟩ | ⟨h, _⟩
          · rw [hc] at h; cases h; exact h1
          · rw [hc] at h; cases h
        have hJ4 := hJs r x y W3 hJ3 hg hsp hc
        go_roundw
        case rel => exact ⟨y, hJ4⟩
        case measure => rw [boxLen_eq (hJb _ _ hJ4).1, hlen, hsp]; simp; omega
      · gi_wp2
        refine bodyPost_ret (results_none rfl _ _ _) rfl ?_
        exact ⟨⟨_, rfl⟩, .inr hJx⟩
theorem pathV_bad {s : List UInt8} (h : s = [] ∨ 4096 < s.length ∨ 0 ∈ s ∨ (pieces 47 s []).any badP = true) : pathV s = 5 := by
  unfold pathV; exact if_pos h
theorem pathV_good {s : List UInt8} (h1 : s ≠ []) (h2 : ¬ 4096 < s.length) (h3 : ¬ 0 ∈ s) (h4 : (pieces 47 s []).any badP = false) : pathV s = 0 := by
  unfold pathV
  refine if_neg ?_
  rintro (h | h | h | h)
  · exact h1 h
  · exact h2 h
  · exact h3 h
  · exact absurd ((show (pieces 47 s []).any badP = true from h).symm.trans h4) (by decide)
theorem has_zero {s : List UInt8} (h : decide (0 ≤ Lib.indexByte (str s).data.toList 0) = true) : 0 ∈ s := by
  rcases index_miss s 0 with h' | ⟨a, b, h1, _, _⟩
  · have := of_decide_eq_true h
    rw [str_data, h'] at this
    exact absurd this (by decide)
  · rw [h1]; simp
theorem zero_has {s : List UInt8} (h : 0 ∈ s) : decide (0 ≤ Lib.indexByte (str s).data.toList 0) = true := by
  rcases index_miss s 0 with h' | ⟨a, b, h1, _, h3⟩
  · exact absurd h (index_not s 0 h')
  · rw [str_data, h3]; exact decide_eq_true (by omega)
structure St (rec : LoopState → Option Code → Loop) (w : World) (st : LoopState) (pe : Option Code) (v : Int) (r : List UInt8) (W : World) : Prop where
  below : Below w.heap.size w W
  ans : W.heap[w.heap.size]? = some (.cells #[.int .i64 v] 30 (0, 0))
  box : W.heap[w.heap.size + 1]? = some (.cells #[.string (str r)] 9 (0, 0))
  dfr : W.heap[w.heap.size + 2]? = some (.deferred (some []))
  loop : W.heap[w.heap.size + 3]? = some (.loop (rec st pe))
section st
variable {rec : LoopState → Option Code → Loop} {w : World} {st : LoopState} {pe : Option Code} {v : Int} {r : List UInt8} {W : World}
theorem St.put (h : St rec w st pe v r W) (st' : LoopState) (pe' : Option Code) : St rec w st' pe' v r (W.putObj (w.heap.size + 3) (.loop (rec st' pe'))) :=
  ⟨h.below.grown (grownBy_putObj' _ _ _) h.below.size (fun k e => by cases e; omega), (World.putObj_heap_other (by omega)).trans h.ans, (World.putObj_heap_other (by omega)).trans h.box,
   (World.putObj_heap_other (by omega)).trans h.dfr, World.putObj_heap_same (Array.getElem?_eq_some_iff.1 h.loop).1⟩
theorem St.setAns (h : St rec w st pe v r W) (v' : Int) : St rec w st pe v' r (W.setCell ⟨w.heap.size, 0, none⟩ (.int .i64 v')) :=
  ⟨h.below.setCell (Nat.le_refl _) _, Boxed.set _ h.ans, (Below.heap_setCell _ _ _ _ (by simp)).trans h.box, (Below.heap_setCell _ _ _ _ (by simp)).trans h.dfr, (Below.heap_setCell _ _ _ _ (by simp)).trans h.loop⟩
theorem St.setBox (h : St rec w st pe v r W) (r' : List UInt8) : St rec w st pe v r' (W.setCell ⟨w.heap.size + 1, 0, none⟩ (.string (str r'))) :=
  ⟨h.below.setCell (Nat.le_succ _) _, (Below.heap_setCell _ _ _ _ (by simp)).trans h.ans, Boxed.set _ h.box, (Below.heap_setCell _ _ _ _ (by simp)).trans h.dfr, (Below.heap_setCell _ _ _ _ (by simp)).trans h.loop⟩
theorem St.drew (h : St rec w st pe v r W) (d : Nat) : St rec w st pe v r (W.drewN d) := ⟨h.below.trans ⟨rfl, rfl, rfl, Nat.le_refl _, fun _ _ => rfl⟩, h.ans, h.box, h.dfr, h.loop⟩
theorem St.ansCell (h : St rec w st pe v r W) : W.cell? ⟨w.heap.size, 0, none⟩ = some (.int .i64 v) := Boxed.cell h.ans
theorem St.ansFree (h : St rec w st pe v r W) : W.frozen? ⟨w.heap.size, 0, none⟩ = false := Boxed.frozen h.ans
theorem St.boxCell (h : St rec w st pe v r W) : W.cell? ⟨w.heap.size + 1, 0, none⟩ = some (.string (str r)) := Boxed.cell h.box
theorem St.boxFree (h : St rec w st pe v r W) : W.frozen? ⟨w.heap.size + 1, 0, none⟩ = false := Boxed.frozen h.box
theorem St.cell0 (h : St rec w st pe v r W) {x : Value} (hk : w.cell? ⟨0, 0, none⟩ = some x) : W.cell? ⟨0, 0, none⟩ = some x := by
  have h0 : 0 < w.heap.size := by
    unfold World.cell? at hk
    cases he : w.heap[0]? with
    | none => simp only [he] at hk; cases hk
    | some o => exact (Array.getElem?_eq_some_iff.1 he).1
  exact (h.below.cell (p := ⟨0, 0, none⟩) h0).trans hk
end st
structure Done (w : World) (v : Int) (W : World) : Prop where
  below : Below w.heap.size w W
  ans : W.heap[w.heap.size]? = some (.cells #[.int .i64 v] 30 (0, 0))
  dfr : W.heap[w.heap.size + 2]? = some (.deferred (some []))
theorem four_heap (w : World) (a b c d : Obj) : ((((w.alloc a).alloc b).alloc c).alloc d).heap[w.heap.size]? = some a ∧ ((((w.alloc a).alloc b).alloc c).alloc d).heap[w.heap.size + 1]? = some b ∧
    ((((w.alloc a).alloc b).alloc c).alloc d).heap[w.heap.size + 2]? = some c ∧ ((((w.alloc a).alloc b).alloc c).alloc d).heap[w.heap.size + 3]? = some d := by
  have z1 : (w.alloc a).heap.size = w.heap.size + 1 := by simp
  have z2 : ((w.alloc a).alloc b).heap.size = w.heap.size + 2 := by simp
  have z3 : (((w.alloc a).alloc b).alloc c).heap.size = w.heap.size + 3 := by simp
  have n1 := World.alloc_heap_new (w.alloc a) b
  have n2 := World.alloc_heap_new ((w.alloc a).alloc b) c
  have n3 := World.alloc_heap_new (((w.alloc a).alloc b).alloc c) d
  rw [z1] at n1; rw [z2] at n2; rw [z3] at n3
  exact ⟨(Below.heap_alloc _ _ _ (by omega)).trans ((Below.heap_alloc _ _ _ (by omega)).trans ((Below.heap_alloc _ _ _ (by omega)).trans (World.alloc_heap_new w a))),
    (Below.heap_alloc _ _ _ (by omega)).trans ((Below.heap_alloc _ _ _ (by omega)).trans n1), (Below.heap_alloc _ _ _ (by omega)).trans n2, n3⟩
theorem range_law (s : List UInt8) (hs : s.length ≤ 1000000) (k : Int) (w : World) (hk : w.cell? ⟨0, 0, none⟩ = some (.int .i64 k)) {g : Operand} {assign body : Code} {Q : Exit → Act → World → Prop} {tm : Array Value}
    (hg : ({ tmps := tm, defers := [] } : Act).eval g = .func (.func 81) #[] #[.pointer (some ⟨w.heap.size + 1, 0, none⟩)]) (a₁ : List UInt8 → Act)
    (hassign : ∀ (l : Nat) (x : List UInt8) (W : World) (K : Act → World → Prop), K (a₁ x) W → assign.wpIn (Fence.wide.inRound l) 3 Tryd.prog (Exit.then K (fun _ _ _ => False)) { tmps := ((#[17] : Array Tmp).zip #[Value.string (str x)]).foldl (fun t (p, v) => t.setIfInBounds p v) tm, defers := [] } W)
    (hbody : ∀ (l : Nat) (x : List UInt8) (W : World), W.cell? ⟨w.heap.size, 0, none⟩ = some (.int .i64 0) → W.frozen? ⟨w.heap.size, 0, none⟩ = false →
      body.wpIn (Fence.wide.inRound l) 3 Tryd.prog (fun e _ W' => (e = .normal ∧ badP x = false ∧ W' = W) ∨ (e = .ret ∧ badP x = true ∧ W' = W.setCell ⟨w.heap.size, 0, none⟩ (.int .i64 5))) (a₁ x) W)
    (hdone : ∀ W, Done w 0 W → (pieces 47 s []).any badP = false → Q .normal { tmps := tm, defers := [{ target := .collected (w.heap.size + 2), args := #[] }] } W)
    (hret : ∀ W, Done w 5 W → (pieces 47 s []).any badP = true → Code.ret.wpIn Fence.wide 5 Tryd.prog Q { tmps := tm, defers := [{ target := .collected (w.heap.size + 2), args := #[] }] } W) :
    (Code.rangeFunc g #[17] assign body).wpIn Fence.wide 5 Tryd.prog Q { tmps := tm, defers := [] } ((w.alloc (.cells #[.int .i64 0] 30)).alloc (.cells #[.string (str s)] 9)) := by
  refine wpIn_rangeFunc ?_
  intro fn _
  obtain ⟨rec, hrec⟩ : ∃ rec : LoopState → Option Code → Loop, rec = fun st pe => { state := st, pending := pe, fn, tmps := tm, params := #[17], assign, body, defers := w.heap.size + 2 } := ⟨_, rfl⟩
  have e1 : ((w.alloc (.cells #[.int .i64 0] 30)).alloc (.cells #[.string (str s)] 9)).heap.size = w.heap.size + 2 := by simp
  obtain ⟨W1, hW1⟩ : ∃ W1, W1 = ((((w.alloc (.cells #[.int .i64 0] 30)).alloc (.cells #[.string (str s)] 9)).alloc (.deferred (some []))).alloc (.loop (rec .ready none))) := ⟨_, rfl⟩
  have hst : St rec w .ready none 0 s W1 := by
    rw [hW1]
    refine ⟨(((((Below.refl _ w).alloc (Nat.le_refl _) _).alloc (by simp) _).alloc (by simp; omega) _).alloc (by simp; omega) _), ?_, ?_, ?_, ?_⟩
    · exact (four_heap w _ _ _ _).1
    · exact (four_heap w _ _ _ _).2.1
    · exact (four_heap w _ _ _ _).2.2.1
    · exact (four_heap w _ _ _ _).2.2.2
  refine ⟨w.heap.size + 3, [{ target := .collected (w.heap.size + 2), args := #[] }], W1, { target := .fn (.func 81) #[.pointer (some ⟨w.heap.size + 1, 0, none⟩)], args := #[.func (.yield (w.heap.size + 3)) #[] #[]] }, W1, 81,
    #[.func (.yield (w.heap.size + 3)) #[] #[], .pointer (some ⟨w.heap.size + 1, 0, none⟩)], W1, ?_, ?_, ?_, ?_, fun _ => by omega, ?_⟩
  · rw [hW1, hrec]
    have := run_enterLoop_outer (P := Tryd.prog) (w := ((w.alloc (.cells #[.int .i64 0] 30)).alloc (.cells #[.string (str s)] 9))) fn tm #[17] assign body
    rw [e1] at this
    exact this
  · simp only [resolve, hg]
    simp [go_sem]
  · intro f' hf'; trivial
  · simp [invoke, go_sem, enters_of Tryd.func81 (by kernel_rfl) rfl]
  · refine (iter_in 4 (w.heap.size + 3) (w.heap.size + 1) k
      (fun r W => St rec w .ready none 0 r W ∧ r.length ≤ s.length ∧ (pieces 47 s []).any badP = (pieces 47 r []).any badP)
      (fun r W => St rec w .ready none 0 r W ∧ r.length ≤ s.length ∧ (pieces 47 s []).any badP = (pieces 47 r []).any badP)
      (fun W => ∃ r, St rec w .done (some .ret) 5 r W ∧ (pieces 47 s []).any badP = true)
      (fun r W h => ⟨h.1.boxCell, h.1.cell0 hk, by have := h.2.1; omega⟩) (fun r W h => ⟨h.1.boxCell, h.1.boxFree⟩) (fun r W d h => ⟨h.1.drew d, h.2⟩) ?_ ?_ s W1 ⟨hst, Nat.le_refl _, rfl⟩).mono ?_
    · rintro r a b W ⟨h1, h2, h3⟩ hg' hr hc
      refine ⟨h1.setBox b, by rw [hr] at h2; simp at h2; omega, ?_⟩
      rw [h3]
      rcases cut1_split r with ⟨a', b', h4, h5, h6⟩ | ⟨h5, _⟩
      · rw [hc] at h5; cases h5
        rw [h6, List.any_cons, hg', Bool.false_or]
      · rw [hc] at h5; cases h5
    · rintro r W ⟨h1, h2, h3⟩
      have hy := run_yield (P := Tryd.prog) (args := #[.string (str (cut1 47 r []).1)]) h1.loop (by rw [hrec]; rfl)
      have hh : (rec .ready none).fn = fn ∧ (rec .ready none).params = #[17] ∧ (rec .ready none).tmps = tm ∧ (rec .ready none).assign = assign ∧ (rec .ready none).body = body := by rw [hrec]; exact ⟨rfl, rfl, rfl, rfl, rfl⟩
      rw [hh.1, hh.2.1, hh.2.2.1, hh.2.2.2.1, hh.2.2.2.2] at hy
      have hbad : badP (cut1 47 r []).1 = true → (pieces 47 s []).any badP = true := fun hb => by
        rw [h3]
        rcases cut1_split r with ⟨a', b', h4, h5, h6⟩ | ⟨h5, h6⟩
        · rw [h5] at hb; rw [h6, List.any_cons, hb]; rfl
        · rw [h5] at hb; rw [h6, List.any_cons, hb]; rfl
      have p2 : ∀ (v : Int) (W3 : World) (st : LoopState) (pe : Option Code) (st' : LoopState) (pe' : Option Code), St rec w st pe v r W3 → ({ rec st pe with state := st', pending := pe' } : Loop) = rec st' pe' := fun v W3 st pe st' pe' _ => by rw [hrec]
      have hbg := run_beginRound (P := Tryd.prog) h1.loop (by rw [hrec])
      have eb : ({ rec .ready none with state := .busy } : Loop) = rec .busy none := by rw [hrec]
      rw [eb] at hbg
      have h1b := h1.put .busy none
      refine ⟨fn, _, assign, body, hy, roundIn_of_wpIn trivial ?_⟩
      refine hassign _ _ W _ ?_
      refine ⟨_, hbg, ?_⟩
      refine wpIn_mono (hbody _ _ _ h1b.ansCell h1b.ansFree) ?_
      rintro e a3 W3 (⟨rfl, hx, rfl⟩ | ⟨rfl, hx, rfl⟩)
      · have he := run_endRound (P := Tryd.prog) none h1b.loop
        have er : ({ rec .busy none with state := if (none : Option Code).isNone then .ready else .done, pending := none } : Loop) = rec .ready none := by rw [hrec]; rfl
        rw [er] at he
        exact ⟨_, _, he, .inl ⟨rfl, hx, h1b.put .ready none, h2, h3⟩⟩
      · have he := run_endRound (P := Tryd.prog) (some .ret) (h1b.setAns 5).loop
        have er : ({ rec .busy none with state := if (some Code.ret).isNone then .ready else .done, pending := some .ret } : Loop) = rec .done (some .ret) := by rw [hrec]; rfl
        rw [er] at he
        exact ⟨_, _, he, .inr ⟨rfl, r, (h1b.setAns 5).put .done (some .ret), hbad hx⟩⟩
    · rintro e W2 ⟨⟨v, rfl⟩, (⟨r, hc, hb, h1, h2, h3⟩ | ⟨r, h1, h3⟩)⟩
      · have he := run_endLoop (P := Tryd.prog) h1.loop (by rw [hrec]; simp)
        have er : ({ rec .ready none with state := .exhausted } : Loop) = rec .exhausted none := by rw [hrec]
        have ep : (rec .ready none).pending = none := by rw [hrec]
        rw [er, ep] at he
        have h4 := h1.put .exhausted none
        refine ⟨none, _, he, hdone _ ⟨h4.below, h4.ans, h4.dfr⟩ ?_⟩
        rcases cut1_split r with ⟨a', b', h4, h5, h6⟩ | ⟨h5, h6⟩
        · rw [hc] at h5; cases h5
        · rw [h3, h6, List.any_cons, hb]; rfl
      · have he := run_endLoop (P := Tryd.prog) h1.loop (by rw [hrec]; simp)
        have er : ({ rec .done (some .ret) with state := .exhausted } : Loop) = rec .exhausted (some .ret) := by rw [hrec]
        have ep : (rec .done (some .ret)).pending = some .ret := by rw [hrec]
        rw [er, ep] at he
        have h4 := h1.put .exhausted (some .ret)
        exact ⟨some .ret, _, he, hret _ ⟨h4.below, h4.ans, h4.dfr⟩ h3⟩
theorem ans_put {w W : World} {v : Int} (h : W.heap[w.heap.size]? = some (.cells #[.int .i64 v] 30 (0, 0))) (D : Nat) (o : Obj) (hD : w.heap.size ≠ D) : (W.putObj D o).cell? ⟨w.heap.size, 0, none⟩ = some (.int .i64 v) :=
  Boxed.cell (t := 30) ((World.putObj_heap_other hD).trans h)
set_option maxRecDepth 100000 in
set_option maxHeartbeats 2000000 in
theorem path_calls (s : List UInt8) (hs : s.length ≤ 1000000) (k : Int) (w : World) (hk : w.cell? ⟨0, 0, none⟩ = some (.int .i64 k)) :
    Calls Tryd.prog 60 #[.string (str s)] w fun e w' => e = .returned (.int .i64 (pathV s)) ∧ Below w.heap.size w w' := by
  refine (callsIn_wide (n := 5)).1 ?_
  refine callsIn_of_wp_marks Tryd.func60 rfl trivial ?_ rfl
  simp only [Tryd.ntmps60, List.size_toArray, List.length_cons, List.length_nil, Nat.reduceAdd, Nat.reduceSub, Array.replicate_succ, Array.replicate_zero, List.push_toArray, List.append_toArray, List.nil_append, List.cons_append]
  have hcontains := fun (W : World) => Tryd.strings_Contains_one (str s) 0 W
  have c5 : (w.alloc (.cells #[.int .i64 5] 30)).cell? ⟨w.heap.size, 0, none⟩ = some (.int .i64 5) := Boxed.cell (t := 30) (World.alloc_heap_new w _)
  have b5 : Below w.heap.size w (w.alloc (.cells #[.int .i64 5] 30)) := (Below.refl _ w).alloc (Nat.le_refl _) _
  cases hE : (str s).toList.isEmpty
  · cases hL : decide ((4096 : Int) < ((str s).size : Int))
    · cases hC : decide (0 ≤ Lib.indexByte (str s).data.toList 0)
      · gi_wp2_with (first
          | (refine ⟨trivial, ?_⟩; gi_at_call 71; refine (callsIn_wide.2 (hcontains _)).mono ?_; rintro e w1 ⟨rfl, rfl⟩)
          | (refine ⟨trivial, ?_⟩; gi_at_call 72; refine (parts_in _ _ trivial rfl _ _).mono ?_; rintro e w1 ⟨rfl, rfl⟩))
        refine range_law s hs k w hk rfl (fun x => { tmps := #[.string (str s), undef, .pointer (some ⟨w.heap.size, 0, none⟩), .string (str x), .string (str s), .bool false, .bool false, .string (str s), .int .i64 ((str s).size : Int), .bool false, .bool false, .bool false, .string (str s), .bool false, .bool false, .string (str s), .func (.func 81) #[] #[.pointer (some ⟨w.heap.size + 1, 0, none⟩)], .string (str x), undef, undef, undef, undef, undef, undef, undef, undef, undef, undef], defers := [] }) ?_ ?_ ?_ ?_
        · intro l x W K hK
          gi_wp2
          exact hK
        · intro l x W hc hf
          clear hcontains c5 b5 hk hE hL hC
          gi_wp2
          all_goals simp_all [badP, toList_str]
        · intro W hd hno
          have hp : pathV s = 0 := pathV_good (by rw [toList_str] at hE; intro h; rw [h] at hE; cases hE) (by rw [str_size] at hL; have := of_decide_eq_false hL; omega) (fun h => by rw [zero_has h] at hC; cases hC) hno
          have hc := Boxed.cell (t := 30) hd.ans
          have hf := Boxed.frozen (t := 30) hd.ans
          gi_wp2
          have hd2 := Boxed.set (.int .i64 0) (t := 30) hd.ans
          have hdf : (W.setCell ⟨w.heap.size, 0, none⟩ (.int .i64 0)).heap[w.heap.size + 2]? = some (.deferred (some [])) := (Below.heap_setCell _ _ _ _ (by simp)).trans hd.dfr
          refine ⟨by simp, .inl ⟨_, _, rfl, run_takeDeferred hdf, ?_⟩⟩
          have hc := ans_put hd2 (w.heap.size + 2) (.deferred none) (by omega)
          have hb := hd.below.setCell (p := ⟨w.heap.size, 0, none⟩) (Nat.le_refl _) (.int .i64 0)
          exact ⟨.int .i64 0, by simp [results, Tryd.f60, go_sem, hc], by rw [hp], hb.grown (grownBy_putObj' _ _ _) hb.size (fun k e => by cases e; omega)⟩
        · intro W hd hyes
          have hp : pathV s = 5 := pathV_bad (.inr (.inr (.inr hyes)))
          gi_wp2
          refine ⟨by simp, .inl ⟨_, _, rfl, run_takeDeferred hd.dfr, ?_⟩⟩
          have hc := ans_put hd.ans (w.heap.size + 2) (.deferred none) (by omega)
          exact ⟨.int .i64 5, by simp [results, Tryd.f60, go_sem, hc], by rw [hp], hd.below.grown (grownBy_putObj' _ _ _) hd.below.size (fun k e => by cases e; omega)⟩
      · have hp : pathV s = 5 := pathV_bad (.inr (.inr (.inl (has_zero hC))))
        gi_wp2_with (first
          | (refine ⟨trivial, ?_⟩; gi_at_call 71; refine (callsIn_wide.2 (hcontains _)).mono ?_; rintro e w1 ⟨rfl, rfl⟩))
        exact ⟨.int .i64 5, by simp [results, Tryd.f60, go_sem, c5], by rw [hp], b5⟩
    · have hp : pathV s = 5 := pathV_bad (.inr (.inl (by rw [str_size] at hL; have := of_decide_eq_true hL; omega)))
      gi_wp2_with (refine ⟨trivial, ?_⟩)
      exact ⟨.int .i64 5, by simp [results, Tryd.f60, go_sem, c5], by rw [hp], b5⟩
  · have hp : pathV s = 5 := pathV_bad (.inl (by rw [toList_str] at hE; exact List.isEmpty_iff.1 hE))
    gi_wp2_with (refine ⟨trivial, ?_⟩)
    exact ⟨.int .i64 5, by simp [results, Tryd.f60, go_sem, c5], by rw [hp], b5⟩
theorem pathOk : PathOk := fun p m hp => Abs.Spec.of_below rfl fun ι w ys hy hr => by
  rw [Abs.flats_eq (by simp [Abs.flat]) hy]
  obtain ⟨k, hk⟩ := hr.glob.known.maxLen
  exact path_calls p hp k w hk
#print axioms pathOk
end Go.Proofs.YthcleiegefhmdaaDoor
namespace Go.Proofs.YthcleiegefhmdaaDoor
open Go.RowKit Abs
def exText : List UInt8 := [119, 111, 114, 108, 100, 32, 54, 48, 32, 54, 48, 32, 48, 32, 48, 10, 112, 97, 99, 107, 32, 54, 54, 58, 54, 56, 54, 57, 10, 116, 105, 99, 107, 32, 57, 10]
def exPack : StepL := ⟨0, 0, [([102], [104, 105])], [], false, 0, 0⟩
def exTick : StepL := ⟨1, 0, [], [], false, 0, 0⟩
def exScr : PS := (60, 60, 0, 0, [exPack, exTick, exTick, exTick, exTick, exTick, exTick, exTick, exTick, exTick])
theorem ex_parse : parseV exText = (exScr, 0, 0) := by decide +kernel
theorem ex_print : printV exScr = exText := by decide +kernel
theorem ScrAt.keep {M M' : Mem} {V : Value} {L : List StepL} (h : ScrAt M V L) (hk : ∀ b x, M.get b = some x → M'.get b = some x) : ScrAt M' V L := by
  obtain ⟨LV, h1, h2, h3⟩ := h
  refine ⟨LV, h1, fun q hq => Keeps.files (k := 0) ⟨fun b x _ h => hk b x h, fun b s cs h => hk b _ h⟩ (h2 q hq), ?_⟩
  obtain ⟨a, cap, e, k1, k2, k3, k4, k5⟩ := h3
  refine ⟨a, cap, e, k1, k2, k3, k4, fun q hq => ?_⟩
  obtain ⟨b, e, k6⟩ := k5 q hq
  exact ⟨b, e, fun hz => by obtain ⟨ro, k7⟩ := k6 hz; exact ⟨ro, hk _ _ k7⟩⟩
theorem keeps_old {M M' : Mem} (h : Keeps M.size M M') : ∀ b x, M.get b = some x → M'.get b = some x := fun b x hx => h.1 b x (get_live hx) hx
theorem exPack_ok : StepOk exPack := ⟨⟨by decide, by decide⟩, ⟨by decide, by decide⟩, ⟨by decide, by decide⟩, by decide, by decide, fun f hf => by
  simp only [exPack, List.mem_singleton] at hf; subst hf; exact ⟨by decide, by decide⟩⟩
theorem exTick_ok : StepOk exTick := ⟨⟨by decide, by decide⟩, ⟨by decide, by decide⟩, ⟨by decide, by decide⟩, by decide, by decide, fun f hf => by cases hf⟩
set_option maxRecDepth 100000 in
set_option maxHeartbeats 4000000 in
theorem awake_spec (m : Mem) : Abs.Spec Tryd.prog 9 [] m fun u M => u = .bool true ∧ Keeps m.size m M := by
  refine Abs.Spec.walkM Tryd.func9 (by rfl) _ Tryd.results9 _ Tryd.ntmps9 (by simp) ?_
  intro hc hx k
  have hal := al_Scr
  generalize aStride Tryd.prog 29 = s1 at hal
  refine CW_seq (CW_region ?_)
  simp only [zZ, reduceIte, Nat.reduceLT, Int.reduceToNat, Int.reduceLE, Int.reduceEq, Int.reduceLT, Nat.reduceEqDiff, Nat.reduceAdd, zTy]
  refine CW_seq (CW_region ?_)
  simp only [zZ, reduceIte, Nat.reduceLT, Int.reduceToNat, Int.reduceLE, Int.reduceEq, Int.reduceLT, Nat.reduceEqDiff, Nat.reduceAdd, zTy]
  have hp := parse_spec pathOk exText (by decide) m
  rw [ex_parse] at hp
  refine ⟨by kernel_rfl, _, hp, ?_⟩
  rintro u M1 ⟨hk1, hs1, V, hu, hV⟩
  replace hu : u = .tuple #[.agg #[.int .i64 60, .int .i64 60, .int .i64 0, .int .i64 0, V], .int .i64 0, .int .i64 0] := hu
  subst hu
  have hV0 := hV
  obtain ⟨LV, hV1, hV2, hV3⟩ := hV
  have hV3' : Rd M1 7 V 10 (LV.flatMap stepC) := hV3
  clear hV3
  obtain ⟨a, ca, rfl, _⟩ := id hV3'
  obtain ⟨ga, ra, hpa, hga⟩ := hV3'.at (by decide)
  subst hpa
  have hLV : LV.length = 10 := by have := congrArg List.length hV1; rw [List.length_map] at this; exact this
  obtain ⟨⟨y0, W0⟩, hX0⟩ : ∃ A, LV[0]? = some A := ⟨_, List.getElem?_eq_getElem (by omega)⟩
  obtain ⟨⟨y9, W9⟩, hX9⟩ : ∃ A, LV[9]? = some A := ⟨_, List.getElem?_eq_getElem (by omega)⟩
  have e0 : y0 = exPack := by
    have h : (LV.map Prod.fst)[0]? = some y0 := by rw [List.getElem?_map, hX0]; rfl
    rw [hV1] at h; exact (Option.some.inj h).symm
  have e9 : y9 = exTick := by
    have h : (LV.map Prod.fst)[9]? = some y9 := by rw [List.getElem?_map, hX9]; rfl
    rw [hV1] at h; exact (Option.some.inj h).symm
  subst e0
  subst e9
  have hF := hV2 _ (List.mem_of_getElem? hX0)
  simp only at hF
  have hF2 : Rd M1 2 W0 1 (exPack.files.flatMap fileC) := hF.rd
  obtain ⟨va, vc, rfl, _⟩ := id hF2
  obtain ⟨gv, rv, hva, hgv⟩ := hF2.at (by decide)
  subst hva
  have c0 : (LV.flatMap stepC)[0 * 7 + 2]? = some (.slice (some ⟨gv, 0, none⟩) 1 vc) := flatMap_get (fun a _ => stepC_len a) hX0 (o := 2) (by decide)
  have c9 : (LV.flatMap stepC)[9 * 7]? = some (.int .i64 1) := flatMap_get (fun a _ => stepC_len a) hX9 (o := 0) (by decide)
  simp only [zZ, reduceIte, Nat.reduceLT, Int.reduceToNat, Int.reduceLE, Int.reduceEq, Int.reduceLT, Nat.reduceEqDiff, Nat.reduceAdd, zTy, hal, Mem.get_push_new, push_set]
  obtain ⟨M2, hM2⟩ : ∃ M2, M2 = M1.push (.cells false s1 [.int .i64 60, .int .i64 60, .int .i64 0, .int .i64 0, .slice (some ⟨ga, 0, none⟩) 10 ca]) := ⟨_, rfl⟩
  have hold2 : ∀ b x, M1.get b = some x → M2.get b = some x := fun b x hx => by rw [hM2, Mem.get_push_old (get_live hx)]; exact hx
  have hb2 : M2.get M1.size = some (.cells false s1 [.int .i64 60, .int .i64 60, .int .i64 0, .int .i64 0, .slice (some ⟨ga, 0, none⟩) 10 ca]) := by rw [hM2, Mem.get_push_new]
  have hs2 : M2.size = M1.size + 1 := by rw [hM2, Mem.size_push]
  have hga2 := hold2 _ _ hga
  have hgv2 := hold2 _ _ hgv
  rw [← hM2]
  have b0 : ((0 : Int) == 0) = true := rfl
  have b60 : ((60 : Int) == 60) = true := rfl
  have b10 : ((10 : Int) == 10) = true := rfl
  have b1 : ((1 : Int) == 1) = true := rfl
  have bf : ∀ c, aBin Tryd.prog .eql 43 c (.agg #[.string (str [102]), .string (str [104, 105])]) (.agg #[.string ⟨#[102]⟩, .string ⟨#[104, 105]⟩]) = some (.bool true) := fun c => by cases c <;> kernel_rfl
  have hbf : aBuild Tryd.prog 43 [(0, .string ⟨#[102]⟩), (1, .string ⟨#[104, 105]⟩)] = some (.agg #[.string ⟨#[102]⟩, .string ⟨#[104, 105]⟩]) := by kernel_rfl
  have i0 : (0 : Int) ≤ 0 := by decide
  have i1 : (0 : Int) < 10 := by decide
  have i2 : (0 : Int) ≤ 9 := by decide
  have i3 : (9 : Int) < 10 := by decide
  have i4 : (0 : Int) < 1 := by decide
  have hrow : rowIn 2 (0 * 2) (some (.cells rv 2 (exPack.files.flatMap fileC))) = some (.agg #[.string (str [102]), .string (str [104, 105])]) := rfl
  have n10 : ((10 : Nat) : Int) = 10 := rfl
  have n1 : ((1 : Nat) : Int) = 1 := rfl
  have tn0 : (0 : Int).toNat = 0 := rfl
  have tn9 : (9 : Int).toNat = 9 := rfl
  refine CW_seq (CW_region ?_)
  simp only [zZ, reduceIte, Nat.reduceLT, Int.reduceToNat, Int.reduceLE, Int.reduceEq, Int.reduceLT, Nat.reduceEqDiff, Nat.reduceAdd, zTy, hb2, b0, n10, b10, b60, i0, i1, i2, i3, i4, and_self, tn0, tn9, hga2, c0, n1, b1, hgv2, hrow, hbf, bf, c9, decide_true]
  have hpr := print_spec exScr (some ⟨ga, 0, none⟩) ca M2 (ScrAt.keep hV0 hold2) ⟨by decide, by decide⟩ ⟨by decide, by decide⟩ ⟨by decide, by decide⟩ ⟨by decide, by decide⟩ (by decide)
    (fun y hy => by
      have : y = exPack ∨ y = exTick := by simpa [exScr] using hy
      rcases this with rfl | rfl
      · exact exPack_ok
      · exact exTick_ok) (by rw [ex_print]; decide)
  rw [ex_print] at hpr
  have hq : beqB (str exText) ⟨#[119, 111, 114, 108, 100, 32, 54, 48, 32, 54, 48, 32, 48, 32, 48, 10, 112, 97, 99, 107, 32, 54, 54, 58, 54, 56, 54, 57, 10, 116, 105, 99, 107, 32, 57, 10]⟩ = true := by decide +kernel
  refine ⟨by kernel_rfl, _, hpr, ?_⟩
  rintro _ M3 ⟨rfl, hk3⟩
  simp only [zZ, reduceIte, Nat.reduceLT, Int.reduceToNat, Int.reduceLE, Int.reduceEq, Int.reduceLT, Nat.reduceEqDiff, Nat.reduceAdd, zTy, hq]
  refine CW_ret ?_
  simp only [zZ, reduceIte, Nat.reduceLT, Int.reduceToNat, Int.reduceLE, Int.reduceEq, Int.reduceLT, Nat.reduceEqDiff, Nat.reduceAdd, zTy, mEnd, sAnswer, sAnswer.sRes]
  have hk13 : ∀ b x, M1.get b = some x → M3.get b = some x := fun b x hx => keeps_old hk3 b x (hold2 b x hx)
  exact ⟨M3, Thin.refl _, fun b x hb hx => hk13 b x (hk1.1 b x hb hx), fun b s cs hx => hk13 _ _ (hk1.2 b s cs hx)⟩
theorem isI64_wf {n : Int} (h : (Lit.int .i64 n).wf = true) : isI64 n := by
  simpa [Lit.wf, IntKind.min, IntKind.max, IntKind.signed, IntKind.bits, isI64] using h
end Go.Proofs.YthcleiegefhmdaaDoor
namespace Go.Proofs.YthcleiegefhmdaaDoor
open Go.RowKit Abs
theorem digs_one : ∀ k : Fin 16, (digs.drop k.val).take (k.val + 1 - k.val) = [digit k.val] := by decide
theorem digs_sl (get : Nat → Option Blk) (k : Nat) (hk : k < 16) : gSlice Tryd.prog get 9 (.string ⟨#[48, 49, 50, 51, 52, 53, 54, 55, 56, 57, 97, 98, 99, 100, 101, 102]⟩) (some (.int .i64 (k : Nat))) (some (.int .i64 ((k + 1 : Nat) : Int))) = some (.string (str [digit k])) := by
  have := slice_mid get digs k (k + 1) (by omega) (by show k + 1 ≤ 16; omega)
  rw [digs_one ⟨k, hk⟩] at this
  exact this
theorem hexL_len (q : List UInt8) : (hexL q).length = 2 * q.length := by
  induction q with
  | nil => rfl
  | cons x q ih => simp only [hexL, List.flatMap_cons, List.length_append, List.length_cons, List.length_nil] at ih ⊢; omega
set_option maxRecDepth 100000 in
set_option maxHeartbeats 2000000 in
theorem rhex_spec (s : ByteArray) (hs : s.size ≤ 1000000) (m : Mem) :
    Abs.Spec Tryd.prog 8 [.string s] m fun u M => u = .string (str (hexV s.data.toList)) ∧ M = m := by
  refine Abs.Spec.walkB Tryd.func8 (by rfl) _ Tryd.results8 _ Tryd.ntmps8 (by simp) m [] (ext_nil m).symm 0 rfl (.inl rfl) ?_
  intro hc _
  obtain ⟨L, hL⟩ : ∃ L, L = s.data.toList := ⟨_, rfl⟩
  have hLl : L.length = s.size := by rw [hL]; rfl
  have hbs : bsize s = s.size := rfl
  rw [← hL]
  refine CW_seq (CW_region ?_)
  simp only [zZ, reduceIte, Nat.reduceLT, Int.reduceToNat, Int.reduceLE, Int.reduceEq, Int.reduceLT, Nat.reduceEqDiff, Nat.reduceAdd, zHex, Tryd.underlying3, Tryd.underlying5]
  refine CW_seq (CW_seq (CW_region ?_))
  simp only [zZ, reduceIte, Nat.reduceLT, Int.reduceToNat, Int.reduceLE, Int.reduceEq, Int.reduceLT, Nat.reduceEqDiff, Nat.reduceAdd, zHex, Tryd.underlying3, Tryd.underlying5, hbs]
  refine CW_cond ((s.size : Int) == 0) (by rfl) (fun h => CW_seq (CW_region ?_)) (fun h => CW_skip ?_)
  · simp only [zZ, reduceIte, Nat.reduceLT, Int.reduceToNat, Int.reduceLE, Int.reduceEq, Int.reduceLT, Nat.reduceEqDiff, Nat.reduceAdd, zHex, Tryd.underlying3, Tryd.underlying5]
    refine CW_ret ?_
    simp only [zZ, reduceIte, Nat.reduceLT, Int.reduceToNat, Int.reduceLE, Int.reduceEq, Int.reduceLT, Nat.reduceEqDiff, Nat.reduceAdd, zHex, Tryd.underlying3, Tryd.underlying5, bEnd, sAnswer, sAnswer.sRes]
    have e : L = [] := List.eq_nil_of_length_eq_zero (by have : (s.size : Int) = 0 := by simpa using h
                                                         omega)
    exact told_flat rfl (by rw [e]; rfl)
  · have hne : L ≠ [] := fun e => by
      have : ¬ (s.size : Int) = 0 := by simpa using h
      rw [e] at hLl
      simp at hLl
      omega
    simp only [zZ, reduceIte, Nat.reduceLT, Int.reduceToNat, Int.reduceLE, Int.reduceEq, Int.reduceLT, Nat.reduceEqDiff, Nat.reduceAdd]
    refine CW_seq (CW_region ?_)
    simp only [zZ, reduceIte, Nat.reduceLT, Int.reduceToNat, Int.reduceLE, Int.reduceEq, Int.reduceLT, Nat.reduceEqDiff, Nat.reduceAdd, zHex, Tryd.underlying3, Tryd.underlying5]
    refine CW_seq (CW_seq (CW_region ?_))
    simp only [zZ, reduceIte, Nat.reduceLT, Int.reduceToNat, Int.reduceLE, Int.reduceEq, Int.reduceLT, Nat.reduceEqDiff, Nat.reduceAdd, zHex, Tryd.underlying3, Tryd.underlying5]
    refine CW_block (BW_loop hc (fun n f l => ∃ t : Nat, t + n = L.length ∧ f = [(0, .string s), (3, .string (str (hexL (L.take t)))), (4, .int .i64 (t : Nat))] ∧ l = []) L.length ?_ ?_)
    · refine ⟨_, rfl, [], [0, 3, 4], rfl, ?_⟩
      simp only [zZ, reduceIte, Nat.reduceLT, Int.reduceToNat, Int.reduceLE, Int.reduceEq, Int.reduceLT, Nat.reduceEqDiff, Nat.reduceAdd, zG]
      exact ⟨0, by omega, rfl⟩
    · rintro n f l ⟨t, htn, rfl, rfl⟩
      refine CW_seq (CW_seq (CW_region ?_))
      simp only [zZ, reduceIte, Nat.reduceLT, Int.reduceToNat, Int.reduceLE, Int.reduceEq, Int.reduceLT, Nat.reduceEqDiff, Nat.reduceAdd, zHex, Tryd.underlying3, Tryd.underlying5, hbs]
      refine CW_cond (decide ((t : Int) < (s.size : Int))) (by rfl) (fun h => CW_skip ?_) (fun h => CW_exit ?_)
      · simp only [zZ, reduceIte, Nat.reduceLT, Int.reduceToNat, Int.reduceLE, Int.reduceEq, Int.reduceLT, Nat.reduceEqDiff, Nat.reduceAdd]
        have htl : t < L.length := by have := of_decide_eq_true h; omega
        obtain ⟨b, hb⟩ : ∃ b, L[t]? = some b := ⟨_, List.getElem?_eq_getElem htl⟩
        have hi : aIndex Tryd.prog 9 (.string s) (.int .i64 (t : Int)) = some (byteV b) := by
          rw [index_str s t t rfl (by omega), ← hL, List.getD_eq_getElem?_getD, hb]; rfl
        refine CW_seq (CW_block (CW_seq (CW_draw hmix 11 (by kernel_rfl) (by kernel_rfl) ?_)))
        have hbl := b.toNat_lt
        have e1 : IntKind.i64.wrap (b.toNat : Int) = (b.toNat : Int) := wr (by omega) (by omega)
        have e2 : (b.toNat : Int).tdiv 16 = ((b.toNat / 16 : Nat) : Int) := by rw [Int.tdiv_eq_ediv_of_nonneg (by omega)]; omega
        have e3 : (b.toNat : Int).tmod 16 = ((b.toNat % 16 : Nat) : Int) := by rw [Int.tmod_eq_emod_of_nonneg (by omega)]; omega
        have e4 : IntKind.i64.wrap ((b.toNat / 16 : Nat) : Int) = ((b.toNat / 16 : Nat) : Int) := wr (by omega) (by omega)
        have e5 : IntKind.i64.wrap (((b.toNat / 16 : Nat) : Int) + 1) = ((b.toNat / 16 + 1 : Nat) : Int) := by rw [wr (by omega) (by omega)]; omega
        have e6 : IntKind.i64.wrap (((b.toNat % 16 : Nat) : Int) + 1) = ((b.toNat % 16 + 1 : Nat) : Int) := by rw [wr (by omega) (by omega)]; omega
        have s1 := fun get => digs_sl get (b.toNat / 16) (by omega)
        have s2 := fun get => digs_sl get (b.toNat % 16) (by omega)
        have hl0 : (hexL (L.take t)).length = 2 * t := by rw [hexL_len, List.length_take]; omega
        have z1 : ∀ l : List UInt8, bsize (str l) = l.length := fun _ => rfl
        have hx1 : hexL (L.take (t + 1)) = hexL (L.take t) ++ [digit (b.toNat / 16)] ++ [digit (b.toNat % 16)] := by
          rw [List.take_add_one, hb]; simp [hexL]
        have xi : IntKind.i64.wrap ((t : Int) + 1) = ((t + 1 : Nat) : Int) := by rw [wr (by omega) (by omega)]; omega
        simp only [zZ, reduceIte, Nat.reduceLT, Int.reduceToNat, Int.reduceLE, Int.reduceEq, Int.reduceLT, Nat.reduceEqDiff, Nat.reduceAdd, zHex, Tryd.underlying3, Tryd.underlying5, hi, byteV, e1, e2, e3, e4]
        refine CW_draw hmix 10 (by kernel_rfl) (by kernel_rfl) ?_
        simp only [zZ, reduceIte, Nat.reduceLT, Int.reduceToNat, Int.reduceLE, Int.reduceEq, Int.reduceLT, Nat.reduceEqDiff, Nat.reduceAdd, zHex, Tryd.underlying3, Tryd.underlying5, e5, e6, s1, s2, cat_str, siz_str]
        refine ⟨by simp; omega, by simp; omega, ?_⟩
        refine CW_region ?_
        simp only [zZ, reduceIte, Nat.reduceLT, Int.reduceToNat, Int.reduceLE, Int.reduceEq, Int.reduceLT, Nat.reduceEqDiff, Nat.reduceAdd, zHex, Tryd.underlying3, Tryd.underlying5, xi]
        refine ⟨_, rfl, [], [0, 3, 4], rfl, ?_⟩
        simp only [zZ, reduceIte, Nat.reduceLT, Int.reduceToNat, Int.reduceLE, Int.reduceEq, Int.reduceLT, Nat.reduceEqDiff, Nat.reduceAdd, zG]
        exact ⟨n - 1, ⟨t + 1, by omega, by rw [hx1]⟩, by omega⟩
      · simp only [zZ, reduceIte, Nat.reduceLT, Int.reduceToNat, Int.reduceLE, Int.reduceEq, Int.reduceLT, Nat.reduceEqDiff, Nat.reduceAdd]
        have htl : t = L.length := by have := of_decide_eq_false h; omega
        subst htl
        refine CW_seq (CW_region ?_)
        simp only [zZ, reduceIte, Nat.reduceLT, Int.reduceToNat, Int.reduceLE, Int.reduceEq, Int.reduceLT, Nat.reduceEqDiff, Nat.reduceAdd, zHex, Tryd.underlying3, Tryd.underlying5]
        refine CW_ret ?_
        simp only [zZ, reduceIte, Nat.reduceLT, Int.reduceToNat, Int.reduceLE, Int.reduceEq, Int.reduceLT, Nat.reduceEqDiff, Nat.reduceAdd, zHex, Tryd.underlying3, Tryd.underlying5, bEnd, sAnswer, sAnswer.sRes]
        refine told_flat rfl ?_
        rw [List.take_length]
        unfold hexV
        rw [if_neg hne]
end Go.Proofs.YthcleiegefhmdaaDoor
