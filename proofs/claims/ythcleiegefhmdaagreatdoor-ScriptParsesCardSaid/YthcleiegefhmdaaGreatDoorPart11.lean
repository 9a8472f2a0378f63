/-
  The walk of the document's step.
  The walk of the document's Parse: it is what script.Parse is.
  The walk of the law's same, where the two are the same.
  The law ScriptParses: any text is the script that the document says.
  How a card's row follows from its law's walk: the listed variables hold what the program's text lays.
-/
import Derived.Test.YthcleiegefhmdaaGreatDoorPart10
import Derived.Test.YthcleiegefhmdaaGreatDoorPart09
import Derived.Test.YthcleiegefhmdaaGreatDoorPart05
import Derived.Test.YthcleiegefhmdaaGreatDoorPart06
import Derived.Test.YthcleiegefhmdaaGreatDoorCards
import Derived.Test.YthcleiegefhmdaaGreatDoorTie
import Derived.Deep.DeepHandedRow
import Derived.Lib.LaidTab
import Derived.Lib.LaidU8
import Derived.Lay
import Derived.MakeChecks
import Derived.Shelf.Vars
set_option linter.unusedSimpArgs false
set_option linter.unusedVariables false
set_option linter.unusedSectionVars false
set_option linter.unnecessarySimpa false
set_option linter.defProp false
namespace Go.Proofs.YthcleiegefhmdaaGreatDoor
open Go.RowKit Abs
def StepM (r : Option (StepL × Nat)) (x : StepL) (times : Int) (ok : Bool) : Prop := match r with
  | none => ok = false
  | some y => ok = true ∧ x = y.1 ∧ times = y.2
def RStepR (m : Mem) (r : Option (StepL × Nat)) (u : Value) (M : Mem) : Prop :=
  ∃ (x : StepL) (V : Value) (times : Int) (ok : Bool), u = .tuple #[.agg (stepC (x, V)).toArray, .int .i64 times, .bool ok] ∧ Keeps m.size m M ∧ m.size ≤ M.size ∧ FilesAt M V x.files ∧ StepM r x times ok
theorem tickOf_none (r : List (List UInt8)) (h : r.length ≠ 1) : tickOf r = none := by
  match r, h with
  | [], _ => rfl
  | [_], h => exact absurd rfl h
  | _ :: _ :: _, _ => rfl
theorem sideOf_none (r : List (List UInt8)) (a b : Int) (h : r.length ≠ 2) : sideOf r a b = none := by
  match r, h with
  | [], _ => rfl
  | [_], _ => rfl
  | [_, _], h => exact absurd rfl h
  | _ :: _ :: _ :: _, _ => rfl
theorem injectOf_none (r : List (List UInt8)) (h : r.length ≠ 3) : injectOf r = none := by
  match r, h with
  | [], _ => rfl
  | [_], _ => rfl
  | [_, _], _ => rfl
  | [_, _, _], h => exact absurd rfl h
  | _ :: _ :: _ :: _ :: _, _ => rfl
theorem fateOf_none (r : List (List UInt8)) (h : r.length ≠ 1) (h2 : r.length ≠ 2) : fateOf r = none := by
  match r, h, h2 with
  | [], _, _ => rfl
  | [_], h, _ => exact absurd rfl h
  | [_, _], _, h => exact absurd rfl h
  | _ :: _ :: _ :: _, _, _ => rfl
theorem stepOf_none (w0 : List UInt8) (r : List (List UInt8)) (h0 : ¬ w0 = wPack) (h1 : ¬ (w0 = wTick ∧ r.length = 1)) (h2 : ¬ ((w0 = wFuse ∨ w0 = wCrash) ∧ r.length = 2)) (h3 : ¬ (w0 = wInject ∧ r.length = 3)) (h4 : ¬ (w0 = wFate ∧ r.length = 1)) (h5 : ¬ (w0 = wFate ∧ r.length = 2)) : stepOf (w0 :: r) = none := by
  rw [stepOf, if_neg h0]
  split
  · rename_i h; exact tickOf_none r fun e => h1 ⟨h, e⟩
  · split
    · rename_i h; exact sideOf_none r _ _ fun e => h2 ⟨.inl h, e⟩
    · split
      · rename_i h; exact sideOf_none r _ _ fun e => h2 ⟨.inr h, e⟩
      · split
        · rename_i h; exact injectOf_none r fun e => h3 ⟨h, e⟩
        · split
          · rename_i h; exact fateOf_none r (fun e => h4 ⟨h, e⟩) (fun e => h5 ⟨h, e⟩)
          · rfl
theorem build_stepI2 (k n : Int) (t : ByteArray) (b : Bool) (d c : Int) : aBuild Tryz.prog 52 [(0, .int .i64 k), (1, .int .i64 n), (3, .string t), (4, .agg #[.bool b, .int .i64 d, .int .i64 c])] = some (.agg #[.int .i64 k, .int .i64 n, .slice none 0 0, .string t, .bool b, .int .i64 d, .int .i64 c]) := by kernel_rfl
theorem sideV_eq (s : List UInt8) : sideV s = if s = wSender then 1 else if s = wReceiver then 0 else -1 := rfl
set_option maxRecDepth 100000 in
set_option maxHeartbeats 4000000 in
theorem rstep_spec (ws : List (List UInt8)) (g n : Nat) (ro : Bool) (m : Mem) (hg : m.get g = some (.cells ro 1 (sC ws))) (hn : ws.length = n) (hn1 : 1 ≤ n) (hs : ∀ w ∈ ws, w.length ≤ 900000) (hn2 : n ≤ 900000) :
    Abs.Spec Tryz.prog 14 [.slice (some ⟨g, 0, none⟩) n n] m (RStepR m (stepOf ws)) := by
  refine Abs.Spec.walkM Tryz.func14 (by rfl) _ Tryz.results14 _ Tryz.ntmps14 (by simp) ?_
  intro hc hx k
  obtain ⟨w0, r, rfl⟩ : ∃ w0 r, ws = w0 :: r := by
    cases ws with
    | nil => simp at hn; omega
    | cons w0 r => exact ⟨w0, r, rfl⟩
  obtain ⟨R, hR⟩ : ∃ R, R = stepOf (w0 :: r) := ⟨_, rfl⟩
  rw [← hR]
  have hal := al_Step
  generalize aStride Tryz.prog 52 = s1 at hal
  have fin : ∀ (cs : List Value) (k' nn : Int) (t : List UInt8) (b : Bool) (d c times : Int) (ok : Bool), StepM R ⟨k', nn, [], t, b, d, c⟩ times ok → ∃ m', Thin (m.push (.cells false s1 cs)) m' ∧ RStepR m R (.tuple #[.agg #[.int .i64 k', .int .i64 nn, .slice none 0 0, .string (str t), .bool b, .int .i64 d, .int .i64 c], .int .i64 times, .bool ok]) m' := fun cs k' nn t b d c times ok h =>
    ⟨_, Thin.refl _, ⟨k', nn, [], t, b, d, c⟩, _, times, ok, rfl, Keeps.push _ _ _, by rw [Mem.size_push]; omega, FilesAt.nil _, h⟩
  have e0 : beqB (str w0) ⟨#[112, 97, 99, 107]⟩ = decide (w0 = wPack) := beqB_str w0 _
  have e1 : beqB (str w0) ⟨#[116, 105, 99, 107]⟩ = decide (w0 = wTick) := beqB_str w0 _
  have e2 : beqB (str w0) ⟨#[102, 117, 115, 101]⟩ = decide (w0 = wFuse) := beqB_str w0 _
  have e3 : beqB (str w0) ⟨#[99, 114, 97, 115, 104]⟩ = decide (w0 = wCrash) := beqB_str w0 _
  have e4 : beqB (str w0) ⟨#[105, 110, 106, 101, 99, 116]⟩ = decide (w0 = wInject) := beqB_str w0 _
  have e5 : beqB (str w0) ⟨#[102, 97, 116, 101]⟩ = decide (w0 = wFate) := beqB_str w0 _
  have hget0 : (sC (w0 :: r))[0]? = some (.string (str w0)) := rfl
  have h1n : (0 : Int) < (n : Int) := by omega
  have hgp : ∀ B : Blk, (m.push B).get g = some (.cells ro 1 (sC (w0 :: r))) := fun B => by rw [Mem.get_push_old (get_live hg)]; exact hg
  refine CW_seq (CW_region ?_)
  simp only [zZ, reduceIte, Nat.reduceLT, Int.reduceToNat, Int.reduceLE, Int.reduceEq, Int.reduceLT, Nat.reduceEqDiff, Nat.reduceAdd, zTy, hal]
  obtain ⟨Z, hZ⟩ : ∃ Z : List Value, Z = [.int .i64 0, .int .i64 0, .slice none 0 0, .string ⟨#[]⟩, .bool false, .int .i64 0, .int .i64 0] := ⟨_, rfl⟩
  have zput : ∀ (a b c d e f' h' : Value), oneAll [a, b, c, d, e, f', h'] = true → putIn 7 (m.push (.cells false s1 Z)) m.size 0 [a, b, c, d, e, f', h'] (some (.cells false s1 Z)) = some (m.push (.cells false s1 [a, b, c, d, e, f', h'])) := fun a b c d e f' h' ho => by
    rw [hZ, pt_7_0_7 _ _ _ _ _ _ _ _ _ _ _ _ _ _ _ _ _ ho, push_set]
  -- pack
  refine MW_mid (fun f M => f = [(0, .slice (some ⟨g, 0, none⟩) n n), (2, .pointer (some ⟨m.size, 0, none⟩))] ∧ M = m.push (.cells false s1 Z) ∧ ¬ w0 = wPack) (CW_seq (CW_region ?_)) ?_
  · simp only [zZ, reduceIte, Nat.reduceLT, Int.reduceToNat, Int.reduceLE, Int.reduceEq, Int.reduceLT, Nat.reduceEqDiff, Nat.reduceAdd, zTy, h1n, hgp, hget0, e0]
    refine CW_cond (decide (w0 = wPack)) (by rfl) (fun c0 => CW_seq (CW_region ?_)) (fun c0 => CW_skip ?_)
    · have c0 := of_decide_eq_true c0
      simp only [zZ, reduceIte, Nat.reduceLT, Int.reduceToNat, Int.reduceLE, Int.reduceEq, Int.reduceLT, Nat.reduceEqDiff, Nat.reduceAdd, zTy]
      refine ⟨by kernel_rfl, _, rpack_spec (w0 :: r) g n ro _ (hgp _) hn hn1 hs hn2, ?_⟩
      rintro _ M ⟨x, V, ok, rfl, h1, h2, h3, h4⟩
      rw [Mem.size_push] at h1 h2
      obtain ⟨va, vc, hva, _⟩ := id h3
      subst hva
      have hM : M.get m.size = some (.cells false s1 [.int .i64 0, .int .i64 0, .slice none 0 0, .string ⟨#[]⟩, .bool false, .int .i64 0, .int .i64 0]) := h1.1 _ _ (by omega) (Mem.get_push_new m _)
      have hkM : Keeps m.size m M := (Keeps.push m.size m _).trans ⟨fun b x hb hx => h1.1 b x (by omega) hx, h1.2⟩
      have pget : ∀ B : Blk, (M.push B).get m.size = some (.cells false s1 [.int .i64 0, .int .i64 0, .slice none 0 0, .string ⟨#[]⟩, .bool false, .int .i64 0, .int .i64 0]) := fun B => by rw [Mem.get_push_old (by omega)]; exact hM
      simp only [stepC, zZ, reduceIte, Nat.reduceLT, Int.reduceToNat, Int.reduceLE, Int.reduceEq, Int.reduceLT, Nat.reduceEqDiff, Nat.reduceAdd, zTy, hal, Mem.get_push_new, push_set]
      refine CW_seq (CW_region ?_)
      simp only [zZ, reduceIte, Nat.reduceLT, Int.reduceToNat, Int.reduceLE, Int.reduceEq, Int.reduceLT, Nat.reduceEqDiff, Nat.reduceAdd, zTy, Mem.get_push_new, pget]
      refine CW_ret ?_
      simp only [zZ, reduceIte, Nat.reduceLT, Int.reduceToNat, Int.reduceLE, Int.reduceEq, Int.reduceLT, Nat.reduceEqDiff, Nat.reduceAdd, zTy, mEnd, sAnswer, sAnswer.sRes, aLoad_g, Mem.get_set_same (pget _)]
      refine ⟨_, Thin.refl _, x, .slice va x.files.length vc, 1, ok, rfl, ?_, by rw [Mem.size_set, Mem.size_push]; omega, ?_, ?_⟩
      · exact (hkM.trans (Keeps.push _ _ _)).trans (Keeps.set (Nat.le_refl _) (pget _) _)
      · exact ((Keeps.push 0 M _).trans (Keeps.set (Nat.zero_le _) (pget _) _)).files h3
      · have hR2 : R = packOf r := by rw [hR, stepOf, if_pos c0]
        rw [hR2]
        revert h4
        simp only [List.tail_cons]
        unfold StepM
        cases hp : packOf r with
        | none => exact fun h => h
        | some y =>
          rintro ⟨h5, h6⟩
          refine ⟨h5, h6, ?_⟩
          unfold packOf at hp
          split at hp
          · cases hp
          · split at hp
            · cases hp; rfl
            · cases hp
    · simp only [zZ, reduceIte, Nat.reduceLT, Int.reduceToNat, Int.reduceLE, Int.reduceEq, Int.reduceLT, Nat.reduceEqDiff, Nat.reduceAdd]
      refine ⟨[0, 2], ?_⟩
      simp only [zZ, reduceIte, Nat.reduceLT, Int.reduceToNat, Int.reduceLE, Int.reduceEq, Int.reduceLT, Nat.reduceEqDiff, Nat.reduceAdd, keepF]
      exact ⟨_, Thin.refl _, by rw [hZ], of_decide_eq_false c0⟩
  rintro f M ⟨rfl, rfl, h0⟩
  -- tick
  refine MW_mid (fun f M => f = [(0, .slice (some ⟨g, 0, none⟩) n n), (2, .pointer (some ⟨m.size, 0, none⟩))] ∧ M = m.push (.cells false s1 Z) ∧ ¬ (w0 = wTick ∧ r.length = 1)) (CW_seq (CW_region ?_)) ?_
  · by_cases hb : w0 = wTick ∧ r.length = 1
    · obtain ⟨c0, hl⟩ := hb
      obtain ⟨w1, rfl⟩ : ∃ w1, r = [w1] := by
        match r, hl with
        | [w1], _ => exact ⟨w1, rfl⟩
      have hn' : n = 2 := hn.symm
      subst hn'
      have l2 : ((2 : Nat) : Int) = 2 := rfl
      have z2 : ((2 : Int) == 2) = true := rfl
      have t0 : decide (w0 = wTick) = true := decide_eq_true c0
      have hget1 : (sC [w0, w1])[1]? = some (.string (str w1)) := rfl
      simp only [zZ, reduceIte, Nat.reduceLT, Int.reduceToNat, Int.reduceLE, Int.reduceEq, Int.reduceLT, Nat.reduceEqDiff, Nat.reduceAdd, zTy, l2, z2, hgp, hget0, e1, t0]
      refine CW_cond true (by rfl) (fun _ => CW_seq (CW_region ?_)) (fun h => by cases h)
      simp only [zZ, reduceIte, Nat.reduceLT, Int.reduceToNat, Int.reduceLE, Int.reduceEq, Int.reduceLT, Nat.reduceEqDiff, Nat.reduceAdd, zTy, l2, hgp, hget1]
      refine ⟨by kernel_rfl, _, rnumber_spec w1 1 1000 (by omega) (by omega) _, ?_⟩
      rintro _ M9 ⟨rfl, e9⟩
      subst e9
      simp only [zZ, reduceIte, Nat.reduceLT, Int.reduceToNat, Int.reduceLE, Int.reduceEq, Int.reduceLT, Nat.reduceEqDiff, Nat.reduceAdd, zTy]
      refine CW_seq (CW_region ?_)
      simp only [zZ, reduceIte, Nat.reduceLT, Int.reduceToNat, Int.reduceLE, Int.reduceEq, Int.reduceLT, Nat.reduceEqDiff, Nat.reduceAdd, zTy, build_step1, stepC, stepK, Mem.get_push_new, zput]
      refine CW_ret ?_
      simp only [zZ, reduceIte, Nat.reduceLT, Int.reduceToNat, Int.reduceLE, Int.reduceEq, Int.reduceLT, Nat.reduceEqDiff, Nat.reduceAdd, zTy, mEnd, sAnswer, sAnswer.sRes, aLoad_g, Mem.get_push_new]
      refine fin _ 1 0 [] false 0 0 _ _ ?_
      have hR2 : R = (numQ w1 1 1000).map fun n => (stepK 1 0, n.toNat) := by rw [hR, c0]; rfl
      rw [hR2, numQ_eq w1 1 1000 (by omega) (by omega) (by omega) (by omega)]
      rcases hq : numR w1 1 1000 with ⟨x, ok⟩
      cases ok
      · rfl
      · have := (numR_iff w1 1 1000 x (by omega) (by omega) (by omega) (by omega)).1 hq
        exact ⟨rfl, rfl, by simp only; omega⟩
    · have hcond : (decide (w0 = wTick) && ((n : Int) == 2)) = false := by
        rw [Bool.and_eq_false_iff]
        by_cases c0 : w0 = wTick
        · refine .inr ?_
          rw [beq_eq_false_iff_ne]
          have : r.length ≠ 1 := fun e => hb ⟨c0, e⟩
          simp at hn; omega
        · exact .inl (decide_eq_false c0)
      cases c0 : decide (w0 = wTick) <;> rw [c0] at hcond
      case' true => rw [Bool.true_and] at hcond
      all_goals
        simp only [zZ, reduceIte, Nat.reduceLT, Int.reduceToNat, Int.reduceLE, Int.reduceEq, Int.reduceLT, Nat.reduceEqDiff, Nat.reduceAdd, zTy, h1n, hgp, hget0, e1, c0, hcond]
        refine CW_cond false (by rfl) (fun h => by cases h) (fun _ => CW_skip ?_)
        simp only [zZ, reduceIte, Nat.reduceLT, Int.reduceToNat, Int.reduceLE, Int.reduceEq, Int.reduceLT, Nat.reduceEqDiff, Nat.reduceAdd]
        refine ⟨[0, 2], ?_⟩
        simp only [zZ, reduceIte, Nat.reduceLT, Int.reduceToNat, Int.reduceLE, Int.reduceEq, Int.reduceLT, Nat.reduceEqDiff, Nat.reduceAdd, keepF]
        exact ⟨_, Thin.refl _, rfl, hb⟩
  rintro f M ⟨rfl, rfl, h1⟩
  -- fuse, crash
  refine MW_mid (fun f M => f = [(0, .slice (some ⟨g, 0, none⟩) n n), (2, .pointer (some ⟨m.size, 0, none⟩))] ∧ M = m.push (.cells false s1 Z) ∧ ¬ ((w0 = wFuse ∨ w0 = wCrash) ∧ r.length = 2)) (CW_seq (CW_region ?_)) ?_
  · by_cases hb : (w0 = wFuse ∨ w0 = wCrash) ∧ r.length = 2
    · obtain ⟨c0, hl⟩ := hb
      obtain ⟨w1, w2, rfl⟩ : ∃ w1 w2, r = [w1, w2] := by
        match r, hl with
        | [w1, w2], _ => exact ⟨w1, w2, rfl⟩
      have hn' : n = 3 := hn.symm
      subst hn'
      have l3 : ((3 : Nat) : Int) = 3 := rfl
      have z3 : ((3 : Int) == 3) = true := rfl
      have hget1 : (sC [w0, w1, w2])[1]? = some (.string (str w1)) := rfl
      have hget2 : (sC [w0, w1, w2])[2]? = some (.string (str w2)) := rfl
      have hsv : -1 ≤ sideV w1 ∧ sideV w1 ≤ 1 := by rw [sideV_eq]; split <;> (try split) <;> omega
      have wk : IntKind.i64.wrap (3 - sideV w1) = 3 - sideV w1 := wrs (by omega) (by omega)
      have wk2 : IntKind.i64.wrap (3 - sideV w1 + 2) = 3 - sideV w1 + 2 := wrs (by omega) (by omega)
      obtain ⟨kk, hkk⟩ : ∃ kk : Int, kk = if w0 = wCrash then 3 - sideV w1 + 2 else 3 - sideV w1 := ⟨_, rfl⟩
      have hR2 : R = if w1 = wSender then (numQ w2 (-1) 4611686018427387903).map fun n => (stepK kk n, 1) else if w1 = wReceiver then (numQ w2 (-1) 4611686018427387903).map fun n => (stepK kk n, 1) else none := by
        rw [hR, hkk, sideV_eq]
        have hnc : ¬ wFuse = wCrash := by decide
        by_cases hs1 : w1 = wSender
        · rw [if_pos hs1, if_pos hs1]
          rcases c0 with c0 | c0
          · rw [c0, if_neg hnc]
            show sideOf [w1, w2] 2 3 = _
            rw [sideOf, if_pos hs1]; rfl
          · rw [c0, if_pos rfl]
            show sideOf [w1, w2] 4 5 = _
            rw [sideOf, if_pos hs1]; rfl
        · rw [if_neg hs1, if_neg hs1]
          by_cases hs2 : w1 = wReceiver
          · rw [if_pos hs2, if_pos hs2]
            rcases c0 with c0 | c0
            · rw [c0, if_neg hnc]
              show sideOf [w1, w2] 2 3 = _
              rw [sideOf, if_neg hs1, if_pos hs2]; rfl
            · rw [c0, if_pos rfl]
              show sideOf [w1, w2] 4 5 = _
              rw [sideOf, if_neg hs1, if_pos hs2]; rfl
          · rw [if_neg hs2]
            rcases c0 with c0 | c0
            · rw [c0]
              show sideOf [w1, w2] 2 3 = _
              rw [sideOf, if_neg hs1, if_neg hs2]
            · rw [c0]
              show sideOf [w1, w2] 4 5 = _
              rw [sideOf, if_neg hs1, if_neg hs2]
      have end_ : ∀ (x : Int) (ok : Bool), numR w2 (-1) 4611686018427387903 = (x, ok) → ∀ o2 : Bool, o2 = (ok && decide (0 ≤ sideV w1)) → StepM R ⟨kk, x, [], [], false, 0, 0⟩ 1 o2 := fun x ok hq o2 ho => by
        subst ho
        rw [hR2, numQ_eq w2 (-1) 4611686018427387903 (by omega) (by omega) (by omega) (by omega), hq, sideV_eq]
        by_cases hs1 : w1 = wSender
        · rw [if_pos hs1, if_pos hs1]
          cases ok
          · rfl
          · exact ⟨rfl, rfl, rfl⟩
        · rw [if_neg hs1, if_neg hs1]
          by_cases hs2 : w1 = wReceiver
          · rw [if_pos hs2, if_pos hs2]
            cases ok
            · rfl
            · exact ⟨rfl, rfl, rfl⟩
          · rw [if_neg hs2, if_neg hs2]
            show (ok && decide ((0 : Int) ≤ -1)) = false
            rw [Bool.and_eq_false_iff]
            exact .inr (by decide)
      have d01 : (decide (w0 = wFuse) || decide (w0 = wCrash)) = true := by
        rcases c0 with c0 | c0
        · rw [decide_eq_true c0]; rfl
        · rw [decide_eq_true c0, Bool.or_true]
      cases c1 : decide (w0 = wFuse) <;> cases c2 : decide (w0 = wCrash) <;> rw [c1, c2] at d01 <;> first | (cases d01; done) | skip
      all_goals
        simp only [zZ, reduceIte, Nat.reduceLT, Int.reduceToNat, Int.reduceLE, Int.reduceEq, Int.reduceLT, Nat.reduceEqDiff, Nat.reduceAdd, zTy, l3, z3, hgp, hget0, e2, e3, c1, c2]
        refine CW_cond true (by rfl) (fun _ => CW_seq (CW_region ?_)) (fun h => by cases h)
        simp only [zZ, reduceIte, Nat.reduceLT, Int.reduceToNat, Int.reduceLE, Int.reduceEq, Int.reduceLT, Nat.reduceEqDiff, Nat.reduceAdd, zTy, l3, hgp, hget2]
        refine ⟨by kernel_rfl, _, rnumber_spec w2 (-1) 4611686018427387903 (by omega) (by omega) _, ?_⟩
        rintro _ M9 ⟨rfl, e9⟩
        subst e9
        simp only [zZ, reduceIte, Nat.reduceLT, Int.reduceToNat, Int.reduceLE, Int.reduceEq, Int.reduceLT, Nat.reduceEqDiff, Nat.reduceAdd, zTy]
        refine CW_seq (CW_region ?_)
        simp only [zZ, reduceIte, Nat.reduceLT, Int.reduceToNat, Int.reduceLE, Int.reduceEq, Int.reduceLT, Nat.reduceEqDiff, Nat.reduceAdd, zTy, l3, hgp, hget1]
        refine ⟨by kernel_rfl, _, rside_spec w1 _, ?_⟩
        rintro _ M9 ⟨rfl, e9⟩
        subst e9
        simp only [zZ, reduceIte, Nat.reduceLT, Int.reduceToNat, Int.reduceLE, Int.reduceEq, Int.reduceLT, Nat.reduceEqDiff, Nat.reduceAdd, zTy, wk]
        refine CW_seq (CW_seq (CW_region ?_))
        simp only [zZ, reduceIte, Nat.reduceLT, Int.reduceToNat, Int.reduceLE, Int.reduceEq, Int.reduceLT, Nat.reduceEqDiff, Nat.reduceAdd, zTy, l3, hgp, hget0, e3, c2]
        first
          | refine CW_cond true (by rfl) (fun _ => CW_region ?_) (fun h => by cases h)
            simp only [zZ, reduceIte, Nat.reduceLT, Int.reduceToNat, Int.reduceLE, Int.reduceEq, Int.reduceLT, Nat.reduceEqDiff, Nat.reduceAdd, zTy, wk2]
          | refine CW_cond false (by rfl) (fun h => by cases h) (fun _ => CW_skip ?_)
            simp only [zZ, reduceIte, Nat.reduceLT, Int.reduceToNat, Int.reduceLE, Int.reduceEq, Int.reduceLT, Nat.reduceEqDiff, Nat.reduceAdd]
        rcases hq : numR w2 (-1) 4611686018427387903 with ⟨x, ok⟩
        have hend := end_ x ok hq
        first
          | rw [if_pos (of_decide_eq_true c2)] at hkk
          | rw [if_neg (of_decide_eq_false c2)] at hkk
        subst hkk
        refine CW_seq (CW_region ?_)
        cases ok
        · simp only [zZ, reduceIte, Nat.reduceLT, Int.reduceToNat, Int.reduceLE, Int.reduceEq, Int.reduceLT, Nat.reduceEqDiff, Nat.reduceAdd, zTy, build_step2, stepC, stepK, Mem.get_push_new, zput]
          refine CW_ret ?_
          simp only [zZ, reduceIte, Nat.reduceLT, Int.reduceToNat, Int.reduceLE, Int.reduceEq, Int.reduceLT, Nat.reduceEqDiff, Nat.reduceAdd, zTy, mEnd, sAnswer, sAnswer.sRes, aLoad_g, Mem.get_push_new]
          exact fin _ _ x [] false 0 0 1 _ (hend _ rfl)
        · simp only [zZ, reduceIte, Nat.reduceLT, Int.reduceToNat, Int.reduceLE, Int.reduceEq, Int.reduceLT, Nat.reduceEqDiff, Nat.reduceAdd, zTy, l3, hgp, hget1, build_step2, stepC, stepK]
          refine ⟨by kernel_rfl, _, rside_spec w1 _, ?_⟩
          rintro _ M9 ⟨rfl, e9⟩
          subst e9
          simp only [zZ, reduceIte, Nat.reduceLT, Int.reduceToNat, Int.reduceLE, Int.reduceEq, Int.reduceLT, Nat.reduceEqDiff, Nat.reduceAdd, zTy, Mem.get_push_new, zput]
          refine CW_ret ?_
          simp only [zZ, reduceIte, Nat.reduceLT, Int.reduceToNat, Int.reduceLE, Int.reduceEq, Int.reduceLT, Nat.reduceEqDiff, Nat.reduceAdd, zTy, mEnd, sAnswer, sAnswer.sRes, aLoad_g, Mem.get_push_new]
          exact fin _ _ x [] false 0 0 1 _ (hend _ (by rw [Bool.true_and]))
    · have hcond : ((decide (w0 = wFuse) || decide (w0 = wCrash)) && ((n : Int) == 3)) = false := by
        rw [Bool.and_eq_false_iff]
        by_cases c0 : w0 = wFuse ∨ w0 = wCrash
        · refine .inr ?_
          rw [beq_eq_false_iff_ne]
          have : r.length ≠ 2 := fun e => hb ⟨c0, e⟩
          simp at hn; omega
        · refine .inl ?_
          rw [Bool.or_eq_false_iff]
          exact ⟨decide_eq_false fun e => c0 (.inl e), decide_eq_false fun e => c0 (.inr e)⟩
      cases c0 : decide (w0 = wFuse) <;> cases c1 : decide (w0 = wCrash) <;> rw [c0, c1] at hcond
      case' true.true => replace hcond : ((n : Int) == 3) = false := hcond
      case' true.false => replace hcond : ((n : Int) == 3) = false := hcond
      case' false.true => replace hcond : ((n : Int) == 3) = false := hcond
      all_goals
        simp only [zZ, reduceIte, Nat.reduceLT, Int.reduceToNat, Int.reduceLE, Int.reduceEq, Int.reduceLT, Nat.reduceEqDiff, Nat.reduceAdd, zTy, h1n, hgp, hget0, e2, e3, c0, c1, hcond]
        refine CW_cond false (by rfl) (fun h => by cases h) (fun _ => CW_skip ?_)
        simp only [zZ, reduceIte, Nat.reduceLT, Int.reduceToNat, Int.reduceLE, Int.reduceEq, Int.reduceLT, Nat.reduceEqDiff, Nat.reduceAdd]
        refine ⟨[0, 2], ?_⟩
        simp only [zZ, reduceIte, Nat.reduceLT, Int.reduceToNat, Int.reduceLE, Int.reduceEq, Int.reduceLT, Nat.reduceEqDiff, Nat.reduceAdd, keepF]
        exact ⟨_, Thin.refl _, rfl, hb⟩
  rintro f M ⟨rfl, rfl, h2⟩
  -- inject
  refine MW_mid (fun f M => f = [(0, .slice (some ⟨g, 0, none⟩) n n), (2, .pointer (some ⟨m.size, 0, none⟩))] ∧ M = m.push (.cells false s1 Z) ∧ ¬ (w0 = wInject ∧ r.length = 3)) (CW_seq (CW_region ?_)) ?_
  · by_cases hb : w0 = wInject ∧ r.length = 3
    · obtain ⟨c0, hl⟩ := hb
      obtain ⟨w1, w2, w3, rfl⟩ : ∃ w1 w2 w3, r = [w1, w2, w3] := by
        match r, hl with
        | [w1, w2, w3], _ => exact ⟨w1, w2, w3, rfl⟩
      have hn' : n = 4 := hn.symm
      subst hn'
      have l4 : ((4 : Nat) : Int) = 4 := rfl
      have z4 : ((4 : Int) == 4) = true := rfl
      have t0 : decide (w0 = wInject) = true := decide_eq_true c0
      have hget1 : (sC [w0, w1, w2, w3])[1]? = some (.string (str w1)) := rfl
      have hget2 : (sC [w0, w1, w2, w3])[2]? = some (.string (str w2)) := rfl
      have hget3 : (sC [w0, w1, w2, w3])[3]? = some (.string (str w3)) := rfl
      have hw2 := hs w2 (by simp)
      have hR2 : R = if w1 = wSender ∨ w1 = wReceiver then
          (if (unhexV w2).2 = true then (numQ w3 0 64).map fun n => (⟨6, if w1 = wSender then 1 else 0, [], (unhexV w2).1, false, n, 0⟩, 1) else none) else none := by rw [hR, c0]; rfl
      have end_ : ∀ (y : List UInt8) (x : Int) (is ok : Bool), unhexV w2 = (y, is) → numR w3 0 64 = (x, ok) → ∀ o2 : Bool, o2 = (is && ok && decide (0 ≤ sideV w1)) → StepM R ⟨6, sideV w1, [], y, false, x, 0⟩ 1 o2 := fun y x is ok hu hq o2 ho => by
        subst ho
        rw [hR2, numQ_eq w3 0 64 (by omega) (by omega) (by omega) (by omega), hq, hu, sideV_eq]
        by_cases hs1 : w1 = wSender
        · rw [if_pos hs1, if_pos (.inl hs1), if_pos hs1]
          cases is <;> cases ok <;> first | rfl | exact ⟨rfl, rfl, rfl⟩
        · rw [if_neg hs1, if_neg hs1]
          by_cases hs2 : w1 = wReceiver
          · rw [if_pos hs2, if_pos (.inr hs2)]
            cases is <;> cases ok <;> first | rfl | exact ⟨rfl, rfl, rfl⟩
          · rw [if_neg hs2, if_neg (by rintro (h | h); exact hs1 h; exact hs2 h)]
            show (is && ok && decide ((0 : Int) ≤ -1)) = false
            rw [Bool.and_eq_false_iff]
            exact .inr (by decide)
      simp only [zZ, reduceIte, Nat.reduceLT, Int.reduceToNat, Int.reduceLE, Int.reduceEq, Int.reduceLT, Nat.reduceEqDiff, Nat.reduceAdd, zTy, l4, z4, hgp, hget0, e4, t0]
      refine CW_cond true (by rfl) (fun _ => CW_seq (CW_region ?_)) (fun h => by cases h)
      simp only [zZ, reduceIte, Nat.reduceLT, Int.reduceToNat, Int.reduceLE, Int.reduceEq, Int.reduceLT, Nat.reduceEqDiff, Nat.reduceAdd, zTy, l4, hgp, hget2]
      refine ⟨by kernel_rfl, _, rbytes_spec w2 (by omega) _, ?_⟩
      rintro _ M9 ⟨rfl, e9⟩
      subst e9
      simp only [zZ, reduceIte, Nat.reduceLT, Int.reduceToNat, Int.reduceLE, Int.reduceEq, Int.reduceLT, Nat.reduceEqDiff, Nat.reduceAdd, zTy]
      refine CW_seq (CW_region ?_)
      simp only [zZ, reduceIte, Nat.reduceLT, Int.reduceToNat, Int.reduceLE, Int.reduceEq, Int.reduceLT, Nat.reduceEqDiff, Nat.reduceAdd, zTy, l4, hgp, hget3]
      refine ⟨by kernel_rfl, _, rnumber_spec w3 0 64 (by omega) (by omega) _, ?_⟩
      rintro _ M9 ⟨rfl, e9⟩
      subst e9
      simp only [zZ, reduceIte, Nat.reduceLT, Int.reduceToNat, Int.reduceLE, Int.reduceEq, Int.reduceLT, Nat.reduceEqDiff, Nat.reduceAdd, zTy]
      rcases hu : unhexV w2 with ⟨y, is⟩
      rcases hq : numR w3 0 64 with ⟨x, ok⟩
      have hend := end_ y x is ok hu hq
      refine CW_seq (CW_region ?_)
      simp only [zZ, reduceIte, Nat.reduceLT, Int.reduceToNat, Int.reduceLE, Int.reduceEq, Int.reduceLT, Nat.reduceEqDiff, Nat.reduceAdd, zTy, l4, hgp, hget1]
      refine ⟨by kernel_rfl, _, rside_spec w1 _, ?_⟩
      rintro _ M9 ⟨rfl, e9⟩
      subst e9
      cases is <;> cases ok <;> simp only [zZ, reduceIte, Nat.reduceLT, Int.reduceToNat, Int.reduceLE, Int.reduceEq, Int.reduceLT, Nat.reduceEqDiff, Nat.reduceAdd, zTy, l4, hgp, hget1, build_fateD, build_stepI2, Mem.get_push_new, zput]
      case' true.true =>
        refine ⟨by kernel_rfl, _, rside_spec w1 _, ?_⟩
        rintro _ M9 ⟨rfl, e9⟩
        subst e9
        simp only [zZ, reduceIte, Nat.reduceLT, Int.reduceToNat, Int.reduceLE, Int.reduceEq, Int.reduceLT, Nat.reduceEqDiff, Nat.reduceAdd, zTy, Mem.get_push_new, zput]
        refine CW_ret ?_
        simp only [zZ, reduceIte, Nat.reduceLT, Int.reduceToNat, Int.reduceLE, Int.reduceEq, Int.reduceLT, Nat.reduceEqDiff, Nat.reduceAdd, zTy, mEnd, sAnswer, sAnswer.sRes, aLoad_g, Mem.get_push_new]
        exact fin _ 6 _ y false x 0 1 _ (hend _ (by rfl))
      all_goals
        refine CW_ret ?_
        simp only [zZ, reduceIte, Nat.reduceLT, Int.reduceToNat, Int.reduceLE, Int.reduceEq, Int.reduceLT, Nat.reduceEqDiff, Nat.reduceAdd, zTy, mEnd, sAnswer, sAnswer.sRes, aLoad_g, Mem.get_push_new]
        exact fin _ 6 _ y false x 0 1 _ (hend _ (by rfl))
    · have hcond : (decide (w0 = wInject) && ((n : Int) == 4)) = false := by
        rw [Bool.and_eq_false_iff]
        by_cases c0 : w0 = wInject
        · refine .inr ?_
          rw [beq_eq_false_iff_ne]
          have : r.length ≠ 3 := fun e => hb ⟨c0, e⟩
          simp at hn; omega
        · exact .inl (decide_eq_false c0)
      cases c0 : decide (w0 = wInject) <;> rw [c0] at hcond
      case' true => rw [Bool.true_and] at hcond
      all_goals
        simp only [zZ, reduceIte, Nat.reduceLT, Int.reduceToNat, Int.reduceLE, Int.reduceEq, Int.reduceLT, Nat.reduceEqDiff, Nat.reduceAdd, zTy, h1n, hgp, hget0, e4, c0, hcond]
        refine CW_cond false (by rfl) (fun h => by cases h) (fun _ => CW_skip ?_)
        simp only [zZ, reduceIte, Nat.reduceLT, Int.reduceToNat, Int.reduceLE, Int.reduceEq, Int.reduceLT, Nat.reduceEqDiff, Nat.reduceAdd]
        refine ⟨[0, 2], ?_⟩
        simp only [zZ, reduceIte, Nat.reduceLT, Int.reduceToNat, Int.reduceLE, Int.reduceEq, Int.reduceLT, Nat.reduceEqDiff, Nat.reduceAdd, keepF]
        exact ⟨_, Thin.refl _, rfl, hb⟩
  rintro f M ⟨rfl, rfl, h3⟩
  -- fate, one word
  refine MW_mid (fun f M => f = [(0, .slice (some ⟨g, 0, none⟩) n n), (2, .pointer (some ⟨m.size, 0, none⟩))] ∧ M = m.push (.cells false s1 Z) ∧ ¬ (w0 = wFate ∧ r.length = 1)) (CW_seq (CW_region ?_)) ?_
  · by_cases hb : w0 = wFate ∧ r.length = 1
    · obtain ⟨c0, hl⟩ := hb
      obtain ⟨w1, rfl⟩ : ∃ w1, r = [w1] := by
        match r, hl with
        | [w1], _ => exact ⟨w1, rfl⟩
      have hn' : n = 2 := hn.symm
      subst hn'
      have l2 : ((2 : Nat) : Int) = 2 := rfl
      have z2 : ((2 : Int) == 2) = true := rfl
      have t0 : decide (w0 = wFate) = true := decide_eq_true c0
      have hget1 : (sC [w0, w1])[1]? = some (.string (str w1)) := rfl
      have ed : beqB (str w1) ⟨#[100, 114, 111, 112]⟩ = decide (w1 = wDrop) := beqB_str w1 _
      have hR2 : R = if w1 = wDrop then some (⟨7, 0, [], [], true, 0, 0⟩, 1) else none := by rw [hR, c0]; rfl
      simp only [zZ, reduceIte, Nat.reduceLT, Int.reduceToNat, Int.reduceLE, Int.reduceEq, Int.reduceLT, Nat.reduceEqDiff, Nat.reduceAdd, zTy, l2, z2, hgp, hget0, e5, t0]
      refine CW_cond true (by rfl) (fun _ => CW_seq (CW_draw5 hmix 6 1 [2, 3, 4, 5] (by kernel_rfl) ?_)) (fun h => by cases h)
      simp only [sQB5, idleOK, List.getElem?_cons_succ, List.getElem?_cons_zero, Option.bind_some, zZ, reduceIte, Nat.reduceLT, Int.reduceToNat, Int.reduceLE, Int.reduceEq, Int.reduceLT, Nat.reduceEqDiff, Nat.reduceAdd, zTy, l2, hgp, hget1, ed, build_fate1, build_stepF, stepC, Mem.get_push_new, zput]
      refine ⟨⟨⟨_, rfl, rfl⟩, ⟨_, rfl, rfl⟩, ⟨_, rfl, rfl⟩, ⟨_, rfl, rfl⟩⟩, ?_⟩
      refine CW_ret ?_
      simp only [zZ, reduceIte, Nat.reduceLT, Int.reduceToNat, Int.reduceLE, Int.reduceEq, Int.reduceLT, Nat.reduceEqDiff, Nat.reduceAdd, zTy, mEnd, sAnswer, sAnswer.sRes, aLoad_g, Mem.get_push_new]
      refine fin _ 7 0 [] true 0 0 1 _ ?_
      rw [hR2]
      by_cases hd : w1 = wDrop
      · rw [if_pos hd]; exact ⟨decide_eq_true hd, rfl, rfl⟩
      · rw [if_neg hd]; exact decide_eq_false hd
    · have hcond : (decide (w0 = wFate) && ((n : Int) == 2)) = false := by
        rw [Bool.and_eq_false_iff]
        by_cases c0 : w0 = wFate
        · refine .inr ?_
          rw [beq_eq_false_iff_ne]
          have : r.length ≠ 1 := fun e => hb ⟨c0, e⟩
          simp at hn; omega
        · exact .inl (decide_eq_false c0)
      cases c0 : decide (w0 = wFate) <;> rw [c0] at hcond
      case' true => rw [Bool.true_and] at hcond
      all_goals
        simp only [zZ, reduceIte, Nat.reduceLT, Int.reduceToNat, Int.reduceLE, Int.reduceEq, Int.reduceLT, Nat.reduceEqDiff, Nat.reduceAdd, zTy, h1n, hgp, hget0, e5, c0, hcond]
        refine CW_cond false (by rfl) (fun h => by cases h) (fun _ => CW_skip ?_)
        simp only [zZ, reduceIte, Nat.reduceLT, Int.reduceToNat, Int.reduceLE, Int.reduceEq, Int.reduceLT, Nat.reduceEqDiff, Nat.reduceAdd]
        refine ⟨[0, 2], ?_⟩
        simp only [zZ, reduceIte, Nat.reduceLT, Int.reduceToNat, Int.reduceLE, Int.reduceEq, Int.reduceLT, Nat.reduceEqDiff, Nat.reduceAdd, keepF]
        exact ⟨_, Thin.refl _, rfl, hb⟩
  rintro f M ⟨rfl, rfl, h4⟩
  -- fate, two words
  refine MW_mid (fun f M => f = [(0, .slice (some ⟨g, 0, none⟩) n n), (2, .pointer (some ⟨m.size, 0, none⟩))] ∧ M = m.push (.cells false s1 Z) ∧ ¬ (w0 = wFate ∧ r.length = 2)) (CW_seq (CW_region ?_)) ?_
  · by_cases hb : w0 = wFate ∧ r.length = 2
    · obtain ⟨c0, hl⟩ := hb
      obtain ⟨w1, w2, rfl⟩ : ∃ w1 w2, r = [w1, w2] := by
        match r, hl with
        | [w1, w2], _ => exact ⟨w1, w2, rfl⟩
      have hn' : n = 3 := hn.symm
      subst hn'
      have l3 : ((3 : Nat) : Int) = 3 := rfl
      have z3 : ((3 : Int) == 3) = true := rfl
      have t0 : decide (w0 = wFate) = true := decide_eq_true c0
      have hget1 : (sC [w0, w1, w2])[1]? = some (.string (str w1)) := rfl
      have hget2 : (sC [w0, w1, w2])[2]? = some (.string (str w2)) := rfl
      have hR2 : R = (numQ w1 0 64).bind fun d => (numQ w2 0 3).map fun c => (⟨7, 0, [], [], false, d, c⟩, 1) := by rw [hR, c0]; rfl
      simp only [zZ, reduceIte, Nat.reduceLT, Int.reduceToNat, Int.reduceLE, Int.reduceEq, Int.reduceLT, Nat.reduceEqDiff, Nat.reduceAdd, zTy, l3, z3, hgp, hget0, e5, t0]
      refine CW_cond true (by rfl) (fun _ => CW_seq (CW_region ?_)) (fun h => by cases h)
      simp only [zZ, reduceIte, Nat.reduceLT, Int.reduceToNat, Int.reduceLE, Int.reduceEq, Int.reduceLT, Nat.reduceEqDiff, Nat.reduceAdd, zTy, l3, hgp, hget1]
      refine ⟨by kernel_rfl, _, rnumber_spec w1 0 64 (by omega) (by omega) _, ?_⟩
      rintro _ M9 ⟨rfl, e9⟩
      subst e9
      simp only [zZ, reduceIte, Nat.reduceLT, Int.reduceToNat, Int.reduceLE, Int.reduceEq, Int.reduceLT, Nat.reduceEqDiff, Nat.reduceAdd, zTy]
      refine CW_seq (CW_region ?_)
      simp only [zZ, reduceIte, Nat.reduceLT, Int.reduceToNat, Int.reduceLE, Int.reduceEq, Int.reduceLT, Nat.reduceEqDiff, Nat.reduceAdd, zTy, l3, hgp, hget2]
      refine ⟨by kernel_rfl, _, rnumber_spec w2 0 3 (by omega) (by omega) _, ?_⟩
      rintro _ M9 ⟨rfl, e9⟩
      subst e9
      simp only [zZ, reduceIte, Nat.reduceLT, Int.reduceToNat, Int.reduceLE, Int.reduceEq, Int.reduceLT, Nat.reduceEqDiff, Nat.reduceAdd, zTy]
      rw [numQ_eq w1 0 64 (by omega) (by omega) (by omega) (by omega), numQ_eq w2 0 3 (by omega) (by omega) (by omega) (by omega)] at hR2
      rcases hq : numR w1 0 64 with ⟨x, ok⟩
      rcases hq2 : numR w2 0 3 with ⟨y, ok2⟩
      rw [hq, hq2] at hR2
      refine CW_seq (CW_region ?_)
      cases ok <;> cases ok2 <;> simp only [zZ, reduceIte, Nat.reduceLT, Int.reduceToNat, Int.reduceLE, Int.reduceEq, Int.reduceLT, Nat.reduceEqDiff, Nat.reduceAdd, zTy, build_fateC, build_stepF, stepC, Mem.get_push_new, zput]
      all_goals
        refine CW_ret ?_
        simp only [zZ, reduceIte, Nat.reduceLT, Int.reduceToNat, Int.reduceLE, Int.reduceEq, Int.reduceLT, Nat.reduceEqDiff, Nat.reduceAdd, zTy, mEnd, sAnswer, sAnswer.sRes, aLoad_g, Mem.get_push_new]
        refine fin _ 7 0 [] false x y 1 _ ?_
        rw [hR2]
        first | rfl | exact ⟨rfl, rfl, rfl⟩
    · have hcond : (decide (w0 = wFate) && ((n : Int) == 3)) = false := by
        rw [Bool.and_eq_false_iff]
        by_cases c0 : w0 = wFate
        · refine .inr ?_
          rw [beq_eq_false_iff_ne]
          have : r.length ≠ 2 := fun e => hb ⟨c0, e⟩
          simp at hn; omega
        · exact .inl (decide_eq_false c0)
      cases c0 : decide (w0 = wFate) <;> rw [c0] at hcond
      case' true => rw [Bool.true_and] at hcond
      all_goals
        simp only [zZ, reduceIte, Nat.reduceLT, Int.reduceToNat, Int.reduceLE, Int.reduceEq, Int.reduceLT, Nat.reduceEqDiff, Nat.reduceAdd, zTy, h1n, hgp, hget0, e5, c0, hcond]
        refine CW_cond false (by rfl) (fun h => by cases h) (fun _ => CW_skip ?_)
        simp only [zZ, reduceIte, Nat.reduceLT, Int.reduceToNat, Int.reduceLE, Int.reduceEq, Int.reduceLT, Nat.reduceEqDiff, Nat.reduceAdd]
        refine ⟨[0, 2], ?_⟩
        simp only [zZ, reduceIte, Nat.reduceLT, Int.reduceToNat, Int.reduceLE, Int.reduceEq, Int.reduceLT, Nat.reduceEqDiff, Nat.reduceAdd, keepF]
        exact ⟨_, Thin.refl _, rfl, hb⟩
  rintro f M ⟨rfl, rfl, h5⟩
  refine CW_seq (CW_region ?_)
  simp only [zZ, reduceIte, Nat.reduceLT, Int.reduceToNat, Int.reduceLE, Int.reduceEq, Int.reduceLT, Nat.reduceEqDiff, Nat.reduceAdd, zTy, build_step0, Mem.get_push_new, zput]
  refine CW_ret ?_
  simp only [zZ, reduceIte, Nat.reduceLT, Int.reduceToNat, Int.reduceLE, Int.reduceEq, Int.reduceLT, Nat.reduceEqDiff, Nat.reduceAdd, zTy, mEnd, sAnswer, sAnswer.sRes, aLoad_g, Mem.get_push_new]
  refine fin _ 0 0 [] false 0 0 0 _ ?_
  rw [hR, stepOf_none w0 r h0 h1 h2 h3 h4 h5]
  rfl
end Go.Proofs.YthcleiegefhmdaaGreatDoor
namespace Go.Proofs.YthcleiegefhmdaaGreatDoor
open Go.RowKit Abs
theorem world_tie (ws : List (List UInt8)) : firstOf ws = if (rworldV ws).2 = true then some (rworldV ws).1 else none := by
  match ws with
  | [] => rfl
  | w0 :: r =>
    by_cases h0 : w0 = wordWorld
    · match r with
      | [w1, w2, w3, w4] =>
        simp only [firstOf, rworldV, if_pos h0, numsV]
        obtain ⟨a1, a2⟩ := num_tie w1 13 1024 (by omega) (by omega) (by omega) (by omega)
        obtain ⟨b1, b2⟩ := num_tie w2 13 1024 (by omega) (by omega) (by omega) (by omega)
        obtain ⟨c1, c2⟩ := num_tie w3 0 1000 (by omega) (by omega) (by omega) (by omega)
        obtain ⟨d1, d2⟩ := num_tie w4 0 64 (by omega) (by omega) (by omega) (by omega)
        rw [← a1, ← b1, ← c1, ← d1]
        by_cases ha : (numP w1 13 1024).2 = true
        · by_cases hb : (numP w2 13 1024).2 = true
          · by_cases hc : (numP w3 0 1000).2 = true
            · by_cases hd : (numP w4 0 64).2 = true
              · simp [ha, hb, hc, hd, a2 ha, b2 hb, c2 hc, d2 hd]
              · simp [ha, hb, hc, hd]
            · simp [ha, hb, hc]
          · simp [ha, hb]
        · simp [ha]
      | [] => rw [firstOf, if_pos h0, numsV_len _ _ (by simp)]; rfl
      | [_] => rw [firstOf, if_pos h0, numsV_len _ _ (by simp)]; rfl
      | [_, _] => rw [firstOf, if_pos h0, numsV_len _ _ (by simp)]; rfl
      | [_, _, _] => rw [firstOf, if_pos h0, numsV_len _ _ (by simp)]; rfl
      | _ :: _ :: _ :: _ :: _ :: _ => rw [firstOf, if_pos h0, numsV_len _ _ (by simp)]; rfl
    · rw [firstOf, if_neg h0]
      match r with
      | [w1, w2, w3, w4] => rw [rworldV, if_neg h0]; rfl
      | [] => rfl
      | [_] => rfl
      | [_, _] => rfl
      | [_, _, _] => rfl
      | _ :: _ :: _ :: _ :: _ :: _ => rfl
theorem stapp {k p : Nat} {M : Mem} {V : Value} {L : List (StepL × Value)} (h : StepsAt M k p V L) (hl : L.length ≤ 5000) (x : StepL × Value) :
    ∃ M', aAppend Tryz.prog (M.push (.cells false 7 (stepC x))) 24 24 V (.slice (some ⟨M.size, 0, none⟩) 1 1) = some (.slice (some ⟨M.size + 1, 0, none⟩) (L.length + 1) (L.length + 1), M') ∧
      M'.size = M.size + 2 ∧ M'.get (M.size + 1) = some (.cells false 7 ((L ++ [x]).flatMap stepC)) ∧ (∀ b y, (b < k ∨ b = p ∨ ∃ s cs, y = .cells true s cs) → M.get b = some y → M'.get b = some y) := by
  have hsrc := src_block (m := M.push (.cells false 7 (stepC x))) (c := 1) (k := 1) (N := 7) (news := stepC x) (ro := false) (s := 7) Tryz.underlying24 (Mem.get_push_new M _) (by rw [stepC_len])
  have hbytes := Step_bytes
  rcases h.2 with ⟨rfl, rfl⟩ | ⟨h0, g, hkg, hgp, rfl, hg⟩
  · have ha := gapp_nil (N := 7) (k := 1) (news := stepC x) Tryz.underlying24 inf_Step Step_zero sz_Step rfl (M.push (.cells false 7 (stepC x))) hsrc (by decide) (by omega) (by decide)
    rw [Mem.size_push] at ha
    refine ⟨_, ha, by simp only [Mem.size_push], ?_, fun b y _ hy => ?_⟩
    · have := Mem.get_push_new (M.push (.cells false 7 (stepC x))) (.cells false 7 (stepC x))
      rw [Mem.size_push] at this
      rw [this]; simp
    · have := get_live hy
      rw [Mem.get_push_old (by rw [Mem.size_push]; omega), Mem.get_push_old this]; exact hy
  · have hgl := get_live hg
    have ha := gapp (N := 7) (k := 1) (n := L.length) (cs := L.flatMap stepC) (news := stepC x) Tryz.underlying24 inf_Step Step_zero sz_Step rfl (M.push (.cells false 7 (stepC x))) hsrc (by decide)
      (by rw [Mem.get_push_old hgl]; exact hg) (flatMap_len stepC 7 L fun y _ => stepC_len y) (by
        rw [show (140737488355328 : Nat) = 140737488355 * 1000 + 328 from rfl]
        exact Nat.le_trans (Nat.mul_le_mul (show L.length + 1 ≤ 140737488355 by omega) hbytes) (by omega)) (by omega)
    rw [Mem.size_push] at ha
    refine ⟨_, ha, by simp only [Mem.size_push, Mem.size_set], ?_, fun b y hb hy => ?_⟩
    · have := Mem.get_push_new ((M.push (.cells false 7 (stepC x))).set g none) (.cells false 7 (L.flatMap stepC ++ stepC x))
      rw [Mem.size_set, Mem.size_push] at this
      rw [this, List.flatMap_append]; simp
    · have := get_live hy
      have hbg : b ≠ g := by
        rcases hb with h' | h' | ⟨s, cs, h'⟩
        · omega
        · rw [h']; exact Ne.symm hgp
        · intro e
          rw [e, h', hg] at hy; cases hy
      rw [Mem.get_push_old (by rw [Mem.size_set, Mem.size_push]; omega), Mem.get_set_ne (Ne.symm hbg), Mem.get_push_old this]; exact hy
def RParseR (m : Mem) (r : PS × Int × Int) (u : Value) (M : Mem) : Prop :=
  Keeps m.size m M ∧ m.size ≤ M.size ∧ ∃ V, u = .tuple #[scrAgg r.1 V, .int .i64 r.2.1, .int .i64 r.2.2] ∧ ScrAt M V r.1.2.2.2.2
theorem build_rscr : aBuild Tryz.prog 31 [] = some (.agg #[.int .i64 0, .int .i64 0, .int .i64 0, .int .i64 0, .slice none 0 0]) := by kernel_rfl
theorem StepsAt.scr {M : Mem} {k p : Nat} {V : Value} {L : List (StepL × Value)} (h : StepsAt M k p V L) (hl : L.length ≤ 5000) : ScrAt M V (L.map Prod.fst) ∧ ∃ a n c, V = .slice a n c := by
  obtain ⟨h2, h3⟩ := h
  refine ⟨⟨L, rfl, h2, ?_⟩, ?_⟩
  · rw [List.length_map]
    rcases h3 with ⟨h4, rfl⟩ | ⟨h4, g, _, _, rfl, h5⟩
    · rw [h4]; exact ⟨none, 0, rfl, rfl, Nat.le_refl _, Nat.zero_le _, fun _ => rfl, fun p hp => by cases hp⟩
    · refine ⟨some ⟨g, 0, none⟩, L.length, rfl, flatMap_len stepC 7 _ fun x _ => stepC_len x, Nat.le_refl _, by unfold maxLen; omega, (fun e => by cases e), fun q hq => ?_⟩
      cases hq
      exact ⟨g, rfl, fun _ => ⟨false, h5⟩⟩
  · rcases h3 with ⟨_, rfl⟩ | ⟨_, g, _, _, rfl, _⟩
    · exact ⟨_, _, _, rfl⟩
    · exact ⟨_, _, _, rfl⟩
theorem StepsAt.same {k p : Nat} {M M' : Mem} {V : Value} {L : List (StepL × Value)} (h : StepsAt M k p V L) (hk : ∀ b x, M.get b = some x → M'.get b = some x) : StepsAt M' k p V L := by
  obtain ⟨h3, h4⟩ := h
  refine ⟨fun q hq => Keeps.files (k := 0) ⟨fun b x _ h => hk b x h, fun b s cs h => hk b _ h⟩ (h3 q hq), ?_⟩
  rcases h4 with h4 | ⟨h5, g, h6, h7, h8, h9⟩
  · exact .inl h4
  · exact .inr ⟨h5, g, h6, h7, h8, hk _ _ h9⟩
theorem StepsAt.set_low {k p b s : Nat} {M : Mem} {V : Value} {L : List (StepL × Value)} {cs : List Value} (h : StepsAt M k p V L) (hb : b < k) (hx : M.get b = some (.cells false s cs)) (o : Option Blk) : StepsAt (M.set b o) k p V L := by
  obtain ⟨h3, h4⟩ := h
  refine ⟨fun q hq => (Keeps.set (k := 0) (Nat.zero_le _) hx o).files (h3 q hq), ?_⟩
  rcases h4 with h4 | ⟨h5, g, h6, h7, h8, h9⟩
  · exact .inl h4
  · exact .inr ⟨h5, g, h6, h7, h8, by rw [Mem.get_set_ne (by omega)]; exact h9⟩
theorem side_times {r : List (List UInt8)} {a b : Int} {x : StepL} {tm : Nat} (h : sideOf r a b = some (x, tm)) : tm ≤ 1000 := by
  match r, h with
  | [c, d], h =>
    simp only [sideOf] at h
    split at h
    · rw [Option.map_eq_some_iff] at h
      obtain ⟨_, _, h⟩ := h
      cases h; omega
    · split at h
      · rw [Option.map_eq_some_iff] at h
        obtain ⟨_, _, h⟩ := h
        cases h; omega
      · cases h
  | [], h => cases h
  | [_], h => cases h
  | _ :: _ :: _ :: _, h => cases h
theorem stepOf_times {ws : List (List UInt8)} {x : StepL} {tm : Nat} (h : stepOf ws = some (x, tm)) : tm ≤ 1000 := by
  cases ws with
  | nil => cases h
  | cons w0 r =>
    rw [stepOf] at h
    have one : ∀ (o : Option StepL), o.map (fun y => (y, 1)) = some (x, tm) → tm ≤ 1000 := fun o ho => by
      rw [Option.map_eq_some_iff] at ho
      obtain ⟨_, _, h⟩ := ho
      cases h; omega
    split at h
    · unfold packOf at h
      split at h
      · cases h
      · split at h
        · cases h; omega
        · cases h
    · split at h
      · match r, h with
        | [a], h =>
          simp only [tickOf, Option.map_eq_some_iff] at h
          obtain ⟨n, h1, h2⟩ := h
          cases h2
          unfold numQ at h1
          split at h1
          · rename_i h3
            cases h1
            have := (numP_iff a 1 1000 (numP a 1 1000).1 (by omega) (by omega)).1 (by rw [← h3])
            omega
          · cases h1
        | [], h => cases h
        | _ :: _ :: _, h => cases h
      · split at h
        · exact side_times h
        · split at h
          · exact side_times h
          · split at h
            · match r, h with
              | [a, b, c], h =>
                simp only [injectOf] at h
                split at h
                · split at h
                  · rw [Option.map_eq_some_iff] at h
                    obtain ⟨_, _, h⟩ := h
                    cases h; omega
                  · cases h
                · cases h
              | [], h => cases h
              | [_], h => cases h
              | [_, _], h => cases h
              | _ :: _ :: _ :: _ :: _, h => cases h
            · split at h
              · match r, h with
                | [a], h =>
                  simp only [fateOf] at h
                  split at h
                  · cases h; omega
                  · cases h
                | [a, b], h =>
                  simp only [fateOf, Option.bind_eq_some_iff, Option.map_eq_some_iff] at h
                  obtain ⟨_, _, _, _, h⟩ := h
                  cases h; omega
                | [], h => cases h
                | _ :: _ :: _ :: _, h => cases h
              · cases h
set_option maxRecDepth 100000 in
set_option maxHeartbeats 4000000 in
theorem rparse_spec (s : List UInt8) (hs : s.length ≤ 800000) (m : Mem) :
    Abs.Spec Tryz.prog 5 [.string (str s)] m (RParseR m (parseV s)) := by
  refine Abs.Spec.walkM Tryz.func5 (by rfl) _ Tryz.results5 _ Tryz.ntmps5 (by simp) ?_
  intro hc hx k
  obtain ⟨R, hR⟩ : ∃ R, R = parseV s := ⟨_, rfl⟩
  rw [← hR]
  have hal := al_RScr
  generalize aStride Tryz.prog 31 = s1 at hal
  have halS := al_Step
  generalize aStride Tryz.prog 52 = s2 at halS
  obtain ⟨Z, hZ⟩ : ∃ Z : List Value, Z = [.int .i64 0, .int .i64 0, .int .i64 0, .int .i64 0, .slice none 0 0] := ⟨_, rfl⟩
  have bad : ∀ (M : Mem) (n e : Int), R = (ps0, n, e) → Keeps m.size m M → m.size ≤ M.size → ∃ m', Thin M m' ∧ RParseR m R (.tuple #[.agg #[.int .i64 0, .int .i64 0, .int .i64 0, .int .i64 0, .slice none 0 0], .int .i64 n, .int .i64 e]) m' := fun M n e h h1 h2 => by
    rw [h]
    exact ⟨M, Thin.refl _, h1, h2, _, rfl, ScrAt.nil M⟩
  obtain ⟨M1, hM1⟩ : ∃ M1, M1 = (m.push (.cells false s1 Z)).push (.cells false s1 Z) := ⟨_, rfl⟩
  have hb1 : M1.get m.size = some (.cells false s1 Z) := by rw [hM1, Mem.get_push_old (by rw [Mem.size_push]; omega), Mem.get_push_new]
  have hc1 : M1.get (m.size + 1) = some (.cells false s1 Z) := by
    have := Mem.get_push_new (m.push (.cells false s1 Z)) (.cells false s1 Z)
    rw [Mem.size_push] at this
    rw [hM1]; exact this
  have hk1 : Keeps m.size m M1 := by rw [hM1]; exact (Keeps.push _ _ _).trans (Keeps.push _ _ _)
  have hs1 : M1.size = m.size + 2 := by rw [hM1, Mem.size_push, Mem.size_push]
  have pset : ∀ (B C D : Blk), ((m.push B).push C).set (m.size + 1) (some D) = (m.push B).push D := fun B C D => by
    have := push_set (m.push B) C D
    rw [Mem.size_push] at this
    exact this
  have pget : ∀ (B C : Blk), ((m.push B).push C).get (m.size + 1) = some C := fun B C => by
    have := Mem.get_push_new (m.push B) C
    rw [Mem.size_push] at this
    exact this
  refine CW_seq (CW_region ?_)
  simp only [zZ, reduceIte, Nat.reduceLT, Int.reduceToNat, Int.reduceLE, Int.reduceEq, Int.reduceLT, Nat.reduceEqDiff, Nat.reduceAdd, zTy, hal]
  refine CW_seq (CW_region ?_)
  simp only [zZ, reduceIte, Nat.reduceLT, Int.reduceToNat, Int.reduceLE, Int.reduceEq, Int.reduceLT, Nat.reduceEqDiff, Nat.reduceAdd, zTy, hal, build_rscr, Mem.size_push, pget, pset]
  rw [← hZ, ← hM1]
  clear hM1 pset pget
  -- storing the result: none
  have zput : ∀ M : Mem, M.get m.size = some (.cells false s1 Z) → putIn 5 M m.size 0 [.int .i64 0, .int .i64 0, .int .i64 0, .int .i64 0, .slice none 0 0] (M.get m.size) = some (M.set m.size (some (.cells false s1 [.int .i64 0, .int .i64 0, .int .i64 0, .int .i64 0, .slice none 0 0]))) := fun M h => by rw [h, hZ]; rfl
  have zrow : rowIn 5 0 (some (.cells false s1 Z)) = some (.agg #[.int .i64 0, .int .i64 0, .int .i64 0, .int .i64 0, .slice none 0 0]) := by rw [hZ]; rfl
  have hset : ∀ M o, Keeps m.size m M → m.size < M.size → M.get m.size = some (.cells false s1 Z) → Keeps m.size m (M.set m.size o) ∧ m.size ≤ (M.set m.size o).size := fun M o h1 h2 h3 => ⟨h1.trans (Keeps.set (Nat.le_refl _) h3 o), by rw [Mem.size_set]; omega⟩
  refine CW_seq (CW_seq (CW_region ?_))
  simp only [zZ, reduceIte, Nat.reduceLT, Int.reduceToNat, Int.reduceLE, Int.reduceEq, Int.reduceLT, Nat.reduceEqDiff, Nat.reduceAdd, zTy, bsize_str]
  refine CW_cond (decide ((262144 : Int) < (s.length : Int))) (by rfl) (fun h => CW_seq (CW_region ?_)) (fun h => CW_skip ?_)
  · have zp := zput M1 hb1
    simp only [zZ, reduceIte, Nat.reduceLT, Int.reduceToNat, Int.reduceLE, Int.reduceEq, Int.reduceLT, Nat.reduceEqDiff, Nat.reduceAdd, zTy, hc1, zrow, zp]
    refine CW_ret ?_
    simp only [zZ, reduceIte, Nat.reduceLT, Int.reduceToNat, Int.reduceLE, Int.reduceEq, Int.reduceLT, Nat.reduceEqDiff, Nat.reduceAdd, zTy, mEnd, sAnswer, sAnswer.sRes, aLoad_g, Mem.get_set_same hb1]
    have := of_decide_eq_true h
    exact bad _ 0 3 (by rw [hR, parseV, if_pos (by omega)]) (hset _ _ hk1 (by omega) hb1).1 (hset _ _ hk1 (by omega) hb1).2
  have h := of_decide_eq_false h
  have hR1 : R = if Lib.hasSuffix s [10] = false then ((ps0, 1 + ((s.count 10 : Nat) : Int), 2) : PS × Int × Int) else runLines (pieces 10 (Lib.trimSuffix s [10]) []) 0 ps0 := by rw [hR, parseV, if_neg (by omega)]
  simp only [zZ, reduceIte, Nat.reduceLT, Int.reduceToNat, Int.reduceLE, Int.reduceEq, Int.reduceLT, Nat.reduceEqDiff, Nat.reduceAdd]
  have hwl : ∀ w ∈ pieces 10 s [], w.length ≤ 262144 := fun w hw => by have := pieces_mem 10 s [] w hw; simp at this; omega
  have hwn : (pieces 10 s []).length ≤ 262145 := by rw [pieces_len]; have := List.count_le_length (l := s) (a := 10); omega
  have hpl := pieces_len 10 s []
  have hsplit := rsplit_spec s 10 (by omega) M1
  obtain ⟨l, hl⟩ : ∃ l, l = pieces 10 s [] := ⟨_, rfl⟩
  rw [← hl] at hwl hwn hpl hsplit
  refine CW_seq (CW_region ?_)
  simp only [zZ, reduceIte, Nat.reduceLT, Int.reduceToNat, Int.reduceLE, Int.reduceEq, Int.reduceLT, Nat.reduceEqDiff, Nat.reduceAdd, zTy]
  refine ⟨by kernel_rfl, _, hsplit, ?_⟩
  rintro _ M9 ⟨rfl, hM9⟩
  simp only [zZ, reduceIte, Nat.reduceLT, Int.reduceToNat, Int.reduceLE, Int.reduceEq, Int.reduceLT, Nat.reduceEqDiff, Nat.reduceAdd, zTy]
  obtain ⟨n, hn⟩ : ∃ n, l.length = n := ⟨_, rfl⟩
  rw [hn] at hwn hpl ⊢
  have hg9 : M9.get M1.size = some (.cells false 1 (sC l)) := by
    rw [hM9]
    have := ext_get M1 [some (some (.cells false 1 (sC l)))] 0
    rw [Nat.add_zero] at this
    rw [this]; rfl
  have hs9 : M9.size = M1.size + 1 := by rw [hM9, ext_size]; rfl
  have hold9 : ∀ b x, M1.get b = some x → (fz1 M1.size M9).get b = some x := fun b x hb => by
    rw [fz1_ne (by have := get_live hb; omega), hM9]; exact ext_get_old _ hb
  refine CW_thin (fz1_thin M1.size M9) ?_
  have hg2 := fz1_get hg9
  have hs2 : (fz1 M1.size M9).size = m.size + 3 := by unfold fz1; rw [hg9]; simp only [Mem.size_set, hs9, hs1]
  obtain ⟨M2, hM2⟩ : ∃ M2, M2 = fz1 M1.size M9 := ⟨_, rfl⟩
  rw [← hM2] at hg2 hs2 hold9 ⊢
  clear hM2 hg9 hs9 hM9
  rw [hs1] at hg2 ⊢
  have hb2 := hold9 _ _ hb1
  have hc2 := hold9 _ _ hc1
  have hk2 : Keeps m.size m M2 := hk1.trans ⟨fun b x _ h => hold9 b x h, fun b s cs h => hold9 b _ h⟩
  obtain ⟨q, y, hqy⟩ : ∃ q y, l = q ++ [y] := by
    rcases List.eq_nil_or_concat l with e | ⟨q, y, e⟩
    · rw [e] at hn; simp at hn; omega
    · exact ⟨q, y, by rw [e, List.concat_eq_append]⟩
  have hql : q.length + 1 = n := by rw [← hn, hqy]; simp
  have hlast : (sC l)[q.length]? = some (.string (str y)) := get_str l q.length y (by rw [hqy]; simp)
  have wn : IntKind.i64.wrap ((n : Int) - 1) = ((q.length : Nat) : Int) := by rw [wrs (by omega) (by omega)]; omega
  have ey : beqB (str y) ⟨#[]⟩ = decide (y = []) := beqB_str y []
  have hi0 : (0 : Int) ≤ ((q.length : Nat) : Int) := by omega
  have hi1 : ((q.length : Nat) : Int) < (n : Int) := by omega
  -- is it a text of lines?
  have htie : (y = [] ∧ 2 ≤ n) ↔ Lib.hasSuffix s [10] = true := by
    constructor
    · rintro ⟨rfl, h2⟩
      cases hh : Lib.hasSuffix s [10]
      · rcases pieces_no 10 s hh with rfl | ⟨q', y', hne, he⟩
        · rw [hpl] at h2; simp at h2
        · rw [← hl, hqy] at he
          have := congrArg List.getLast? he
          simp at this
          exact absurd this hne
      · rfl
    · intro hh
      obtain ⟨r, rfl⟩ := (suffix_iff s 10).1 hh
      rw [pieces_last] at hl
      rw [hqy] at hl
      have h3 := congrArg List.getLast? hl
      simp at h3
      refine ⟨h3, ?_⟩
      rw [hpl]; simp
  refine CW_seq (CW_seq (CW_region ?_))
  by_cases hbad : ¬ (y = [] ∧ 2 ≤ n)
  · have hsf : Lib.hasSuffix s [10] = false := by
      cases hh : Lib.hasSuffix s [10]
      · rfl
      · exact absurd (htie.2 hh) hbad
    have hcond : (!decide (y = []) || decide ((n : Int) < 2)) = true := by
      by_cases hy : y = []
      · rw [decide_eq_true hy, Bool.not_true, Bool.false_or]
        exact decide_eq_true (by by_cases h2 : 2 ≤ n; exact absurd ⟨hy, h2⟩ hbad; omega)
      · rw [decide_eq_false hy]; rfl
    have zp := zput M2 hb2
    cases c0 : decide (y = []) <;> rw [c0] at hcond
    case' true => replace hcond : decide ((n : Int) < 2) = true := hcond
    all_goals
      simp only [zZ, reduceIte, Nat.reduceLT, Int.reduceToNat, Int.reduceLE, Int.reduceEq, Int.reduceLT, Nat.reduceEqDiff, Nat.reduceAdd, zTy, wn, hi0, hi1, and_self, hg2, hlast, ey, c0, hcond]
      refine CW_cond true (by rfl) (fun _ => CW_seq (CW_region ?_)) (fun h => by cases h)
      simp only [zZ, reduceIte, Nat.reduceLT, Int.reduceToNat, Int.reduceLE, Int.reduceEq, Int.reduceLT, Nat.reduceEqDiff, Nat.reduceAdd, zTy, hc2, zrow, zp]
      refine CW_ret ?_
      simp only [zZ, reduceIte, Nat.reduceLT, Int.reduceToNat, Int.reduceLE, Int.reduceEq, Int.reduceLT, Nat.reduceEqDiff, Nat.reduceAdd, zTy, mEnd, sAnswer, sAnswer.sRes, aLoad_g, Mem.get_set_same hb2]
      exact bad _ _ 2 (by rw [hR1, if_pos hsf, hpl]; congr 2; omega) (hset _ _ hk2 (by omega) hb2).1 (hset _ _ hk2 (by omega) hb2).2
  have hgood : y = [] ∧ 2 ≤ n := Decidable.not_not.1 hbad
  have hsf := htie.1 hgood
  obtain ⟨tx, htx⟩ := (suffix_iff s 10).1 hsf
  have hq : q = pieces 10 (Lib.trimSuffix s [10]) [] := by
    rw [htx, trim_eq]
    rw [htx, pieces_last, hqy] at hl
    exact (List.append_inj' hl rfl).1
  have hR2 : R = runLines q 0 ps0 := by rw [hR1, if_neg (by rw [hsf]; decide), ← hq]
  have c0 : decide (y = []) = true := decide_eq_true hgood.1
  have c1 : decide ((n : Int) < 2) = false := decide_eq_false (by omega)
  simp only [zZ, reduceIte, Nat.reduceLT, Int.reduceToNat, Int.reduceLE, Int.reduceEq, Int.reduceLT, Nat.reduceEqDiff, Nat.reduceAdd, zTy, wn, hi0, hi1, and_self, hg2, hlast, ey, c0, c1]
  refine CW_cond false (by rfl) (fun h => by cases h) (fun _ => CW_skip ?_)
  simp only [zZ, reduceIte, Nat.reduceLT, Int.reduceToNat, Int.reduceLE, Int.reduceEq, Int.reduceLT, Nat.reduceEqDiff, Nat.reduceAdd]
  clear hbad htie
  refine CW_seq (CW_region ?_)
  simp only [zZ, reduceIte, Nat.reduceLT, Int.reduceToNat, Int.reduceLE, Int.reduceEq, Int.reduceLT, Nat.reduceEqDiff, Nat.reduceAdd, zTy, hc2, zrow, hal, Mem.get_push_new, push_set]
  obtain ⟨M3, hM3⟩ : ∃ M3, M3 = M2.push (.cells false s1 [.int .i64 0, .int .i64 0, .int .i64 0, .int .i64 0, .slice none 0 0]) := ⟨_, rfl⟩
  have hold3 : ∀ b x, M2.get b = some x → M3.get b = some x := fun b x hb => by rw [hM3, Mem.get_push_old (get_live hb)]; exact hb
  have h73 : M3.get (m.size + 3) = some (.cells false s1 [.int .i64 0, .int .i64 0, .int .i64 0, .int .i64 0, .slice none 0 0]) := by
    have := Mem.get_push_new M2 (.cells false s1 [.int .i64 0, .int .i64 0, .int .i64 0, .int .i64 0, .slice none 0 0])
    rw [hs2] at this
    rw [hM3]; exact this
  have hs3 : M3.size = m.size + 4 := by rw [hM3, Mem.size_push, hs2]
  rw [← hM3, hs2]
  clear hM3
  have hg3 := hold3 _ _ hg2
  have hb3 := hold3 _ _ hb2
  have hc3 := hold3 _ _ hc2
  have hk3 : Keeps m.size m M3 := hk2.trans ⟨fun b x _ h => hold3 b x h, fun b s cs h => hold3 b _ h⟩
  have grow : ∀ M, (∀ b x, b < m.size + 3 → M3.get b = some x → M.get b = some x) → Keeps m.size m M ∧ M.get m.size = some (.cells false s1 Z) ∧ M.get (m.size + 1) = some (.cells false s1 Z) ∧ M.get (m.size + 2) = some (.cells true 1 (sC l)) := fun M h =>
    ⟨⟨fun b x hb hx => h b x (by omega) (hk3.1 b x hb hx), fun b s cs hx => h b _ (by have := get_live hx; omega) (hk3.1 b _ (get_live hx) hx)⟩, h _ _ (by omega) hb3, h _ _ (by omega) hc3, h _ _ (by omega) hg3⟩
  refine CW_seq (CW_seq (CW_region ?_))
  simp only [zZ, reduceIte, Nat.reduceLT, Int.reduceToNat, Int.reduceLE, Int.reduceEq, Int.reduceLT, Nat.reduceEqDiff, Nat.reduceAdd, zTy]
  refine CW_block (MW_loop (fun j f M => ∃ (t : Nat) (a b c d : Int) (LV : List (StepL × Value)) (V : Value), t + j = q.length ∧ LV.length ≤ 4096 ∧ R = runLines (q.drop t) t (a, b, c, d, LV.map Prod.fst) ∧
    f = [(2, .pointer (some ⟨m.size, 0, none⟩)), (5, .pointer (some ⟨m.size + 1, 0, none⟩)), (6, .slice (some ⟨m.size + 2, 0, none⟩) n n), (7, .pointer (some ⟨m.size + 3, 0, none⟩)), (8, .int .i64 (t : Nat))] ∧
    (∀ b x, b < m.size + 3 → M3.get b = some x → M.get b = some x) ∧ m.size + 3 < M.size ∧ M.get (m.size + 3) = some (.cells false s1 [.int .i64 a, .int .i64 b, .int .i64 c, .int .i64 d, V]) ∧ StepsAt M (m.size + 4) (m.size + 3) V LV) q.length ?_ ?_)
  · refine ⟨[2, 5, 6, 7, 8], ?_⟩
    simp only [zZ, reduceIte, Nat.reduceLT, Int.reduceToNat, Int.reduceLE, Int.reduceEq, Int.reduceLT, Nat.reduceEqDiff, Nat.reduceAdd, keepF]
    exact ⟨_, Thin.refl _, 0, 0, 0, 0, 0, [], _, by omega, by simp, hR2, rfl, fun b x _ h => h, by omega, h73, fun x hx => by simp at hx, .inl ⟨rfl, rfl⟩⟩
  · rintro j f M ⟨t, a, b, c, d, LV, V, htj, hLV, hun, rfl, hold, hms, h7, hst⟩
    obtain ⟨hkM, hbM, hcM, hgM⟩ := grow M hold
    have hti : IntKind.i64.wrap ((t : Int) + 1) = ((t + 1 : Nat) : Int) := by rw [wr (by omega) (by omega)]; omega
    refine CW_seq (CW_seq (CW_region ?_))
    simp only [zZ, reduceIte, Nat.reduceLT, Int.reduceToNat, Int.reduceLE, Int.reduceEq, Int.reduceLT, Nat.reduceEqDiff, Nat.reduceAdd, zTy, hti]
    refine CW_cond (decide (((t + 1 : Nat) : Int) < (n : Int))) (by rfl) (fun h => CW_skip ?_) (fun h => CW_exit ?_)
    · have htl : t < q.length := by have := of_decide_eq_true h; omega
      have h0 : (0 : Int) ≤ (t : Int) := by omega
      have h1 : (t : Int) < (n : Int) := by omega
      obtain ⟨w, hw⟩ : ∃ w, q[t]? = some w := ⟨_, List.getElem?_eq_getElem htl⟩
      have aw : (sC l)[t]? = some (.string (str w)) := get_str l t w (by rw [hqy, List.getElem?_append_left htl]; exact hw)
      have hwl2 : w.length ≤ 262144 := hwl w (by rw [hqy]; exact List.mem_append_left _ (List.mem_of_getElem? hw))
      rw [drop_get hw, runLines] at hun
      have hws := rsplit_spec w 32 (by omega) M
      have hwl3 : ∀ x ∈ pieces 32 w [], x.length ≤ 262144 := fun x hx => by have := pieces_mem 32 w [] x hx; simp at this; omega
      have hwn3 : (pieces 32 w []).length ≤ 262145 := by rw [pieces_len]; have := List.count_le_length (l := w) (a := 32); omega
      have hwn1 := pieces_ne 32 w []
      generalize pieces 32 w [] = ws at hws hwl3 hwn3 hwn1 hun
      obtain ⟨nw, hnw⟩ : ∃ nw, ws.length = nw := ⟨_, rfl⟩
      rw [hnw] at hws hwn3 hwn1
      simp only [zZ, reduceIte, Nat.reduceLT, Int.reduceToNat, Int.reduceLE, Int.reduceEq, Int.reduceLT, Nat.reduceEqDiff, Nat.reduceAdd]
      -- what is told where a line is none
      have badline : ∀ (M' : Mem) (nn : Int), R = (ps0, nn, 2) → (∀ b x, b < m.size + 3 → M3.get b = some x → M'.get b = some x) → m.size < M'.size → ∃ m', Thin (M'.set m.size (some (.cells false s1 [.int .i64 0, .int .i64 0, .int .i64 0, .int .i64 0, .slice none 0 0]))) m' ∧ RParseR m R (.tuple #[.agg #[.int .i64 0, .int .i64 0, .int .i64 0, .int .i64 0, .slice none 0 0], .int .i64 nn, .int .i64 2]) m' := fun M' nn hR hM' hs' => by
        obtain ⟨g1, g2, _⟩ := grow M' hM'
        exact bad _ nn 2 hR (hset _ _ g1 hs' g2).1 (hset _ _ g1 hs' g2).2
      refine MW_mid (fun f M' => ∃ (a b c d : Int) (LV : List (StepL × Value)) (V : Value), LV.length ≤ 4096 ∧ R = runLines (q.drop (t + 1)) (t + 1) (a, b, c, d, LV.map Prod.fst) ∧
        f = [(2, .pointer (some ⟨m.size, 0, none⟩)), (5, .pointer (some ⟨m.size + 1, 0, none⟩)), (6, .slice (some ⟨m.size + 2, 0, none⟩) n n), (7, .pointer (some ⟨m.size + 3, 0, none⟩)), (8, .int .i64 (t : Nat))] ∧
        (∀ b x, b < m.size + 3 → M3.get b = some x → M'.get b = some x) ∧ m.size + 3 < M'.size ∧ M'.get (m.size + 3) = some (.cells false s1 [.int .i64 a, .int .i64 b, .int .i64 c, .int .i64 d, V]) ∧ StepsAt M' (m.size + 4) (m.size + 3) V LV) (CW_block (CW_seq (CW_region ?_))) ?_
      · simp only [zZ, reduceIte, Nat.reduceLT, Int.reduceToNat, Int.reduceLE, Int.reduceEq, Int.reduceLT, Nat.reduceEqDiff, Nat.reduceAdd, zTy, h0, h1, and_self, hgM, aw]
        refine ⟨by kernel_rfl, _, hws, ?_⟩
        rintro _ M4 ⟨rfl, hM4⟩
        have hg4 : M4.get M.size = some (.cells false 1 (sC ws)) := by
          rw [hM4]
          have := ext_get M [some (some (.cells false 1 (sC ws)))] 0
          rw [Nat.add_zero] at this
          rw [this]; rfl
        have hs4 : M4.size = M.size + 1 := by rw [hM4, ext_size]; rfl
        have hold4 : ∀ b x, M.get b = some x → M4.get b = some x := fun b x hb => by rw [hM4]; exact ext_get_old _ hb
        clear hM4
        simp only [zZ, reduceIte, Nat.reduceLT, Int.reduceToNat, Int.reduceLE, Int.reduceEq, Int.reduceLT, Nat.reduceEqDiff, Nat.reduceAdd, zTy]
        have hold34 : ∀ b x, b < m.size + 3 → M3.get b = some x → M4.get b = some x := fun b x hb hx => hold4 b x (hold b x hb hx)
        obtain ⟨_, hb4, hc4, _⟩ := grow M4 hold34
        have h74 := hold4 _ _ h7
        refine CW_seq (CW_seq (CW_region ?_))
        simp only [zZ, reduceIte, Nat.reduceLT, Int.reduceToNat, Int.reduceLE, Int.reduceEq, Int.reduceLT, Nat.reduceEqDiff, Nat.reduceAdd, zTy]
        refine CW_cond ((t : Int) == 0) (by rfl) (fun hz => CW_seq (CW_region ?_)) (fun hz => CW_skip ?_)
        · have ht0 : t = 0 := by rw [beq_iff_eq] at hz; omega
          rw [ht0, show decide (0 = 0) = true from rfl, lineOf, if_pos rfl, world_tie] at hun
          simp only [zZ, reduceIte, Nat.reduceLT, Int.reduceToNat, Int.reduceLE, Int.reduceEq, Int.reduceLT, Nat.reduceEqDiff, Nat.reduceAdd, zTy]
          refine ⟨by kernel_rfl, _, rworld_spec ws nw M.size false hnw M4 hg4, ?_⟩
          rintro _ M9 ⟨rfl, e9⟩
          replace e9 := e9.symm
          subst e9
          rcases hrw : rworldV ws with ⟨⟨a', b', c', d'⟩, ok⟩
          rw [hrw] at hun
          simp only [scrV, zZ, reduceIte, Nat.reduceLT, Int.reduceToNat, Int.reduceLE, Int.reduceEq, Int.reduceLT, Nat.reduceEqDiff, Nat.reduceAdd, zTy, hal, Mem.get_push_new, push_set]
          refine CW_seq (CW_seq (CW_region ?_))
          simp only [zZ, reduceIte, Nat.reduceLT, Int.reduceToNat, Int.reduceLE, Int.reduceEq, Int.reduceLT, Nat.reduceEqDiff, Nat.reduceAdd, zTy]
          have holdp : ∀ (B : Blk) b x, b < m.size + 3 → M3.get b = some x → (M4.push B).get b = some x := fun B b x hb hx => by rw [Mem.get_push_old (by omega)]; exact hold34 b x hb hx
          have hcp : ∀ B : Blk, (M4.push B).get (m.size + 1) = some (.cells false s1 Z) := fun B => by rw [Mem.get_push_old (by omega)]; exact hc4
          have hbp : ∀ B : Blk, (M4.push B).get m.size = some (.cells false s1 Z) := fun B => by rw [Mem.get_push_old (by omega)]; exact hb4
          have h7p : ∀ B : Blk, (M4.push B).get (m.size + 3) = some (.cells false s1 [.int .i64 a, .int .i64 b, .int .i64 c, .int .i64 d, V]) := fun B => by rw [Mem.get_push_old (by omega)]; exact h74
          cases ok
          · refine CW_cond true (by rfl) (fun _ => CW_seq (CW_region ?_)) (fun h => by cases h)
            have zp := fun B : Blk => zput (M4.push B) (hbp B)
            simp only [zZ, reduceIte, Nat.reduceLT, Int.reduceToNat, Int.reduceLE, Int.reduceEq, Int.reduceLT, Nat.reduceEqDiff, Nat.reduceAdd, zTy, hcp, zrow, zp]
            refine CW_ret ?_
            simp only [zZ, reduceIte, Nat.reduceLT, Int.reduceToNat, Int.reduceLE, Int.reduceEq, Int.reduceLT, Nat.reduceEqDiff, Nat.reduceAdd, zTy, mEnd, sAnswer, sAnswer.sRes, aLoad_g, Mem.get_set_same (hbp _)]
            exact badline _ 1 hun (holdp _) (by rw [Mem.size_push]; omega)
          · refine CW_cond false (by rfl) (fun h => by cases h) (fun _ => CW_skip ?_)
            simp only [zZ, reduceIte, Nat.reduceLT, Int.reduceToNat, Int.reduceLE, Int.reduceEq, Int.reduceLT, Nat.reduceEqDiff, Nat.reduceAdd]
            refine CW_seq (CW_region ?_)
            have hput : ∀ B : Blk, putIn 5 (M4.push B) (m.size + 3) 0 [.int .i64 a', .int .i64 b', .int .i64 c', .int .i64 d', .slice none 0 0] ((M4.push B).get (m.size + 3)) = some ((M4.push B).set (m.size + 3) (some (.cells false s1 [.int .i64 a', .int .i64 b', .int .i64 c', .int .i64 d', .slice none 0 0]))) := fun B => by
              rw [h7p]
              refine putIn_whole _ _ rfl ?_ rfl
              rfl
            simp only [zZ, reduceIte, Nat.reduceLT, Int.reduceToNat, Int.reduceLE, Int.reduceEq, Int.reduceLT, Nat.reduceEqDiff, Nat.reduceAdd, zTy, Mem.get_push_new, hput]
            refine CW_exit ?_
            simp only [zZ, reduceIte, Nat.reduceLT, Int.reduceToNat, Int.reduceLE, Int.reduceEq, Int.reduceLT, Nat.reduceEqDiff, Nat.reduceAdd]
            refine ⟨[2, 5, 6, 7, 8], ?_⟩
            simp only [zZ, reduceIte, Nat.reduceLT, Int.reduceToNat, Int.reduceLE, Int.reduceEq, Int.reduceLT, Nat.reduceEqDiff, Nat.reduceAdd, keepF]
            refine ⟨_, Thin.refl _, a', b', c', d', [], _, by simp, by rw [hun, ht0]; rfl, fun b x hb hx => ?_, by rw [Mem.size_set, Mem.size_push]; omega, Mem.get_set_same (h7p _) _, fun x hx => by simp at hx, .inl ⟨rfl, rfl⟩⟩
            rw [Mem.get_set_ne (by omega)]
            exact holdp _ b x hb hx
        · have ht0 : ¬ t = 0 := by rw [beq_eq_false_iff_ne] at hz; omega
          rw [decide_eq_false ht0, lineOf, if_neg (by decide)] at hun
          simp only [zZ, reduceIte, Nat.reduceLT, Int.reduceToNat, Int.reduceLE, Int.reduceEq, Int.reduceLT, Nat.reduceEqDiff, Nat.reduceAdd]
          refine CW_seq (CW_region ?_)
          simp only [zZ, reduceIte, Nat.reduceLT, Int.reduceToNat, Int.reduceLE, Int.reduceEq, Int.reduceLT, Nat.reduceEqDiff, Nat.reduceAdd, zTy]
          refine ⟨by kernel_rfl, _, rstep_spec ws M.size nw false M4 hg4 hnw hwn1 (fun x hx => by have := hwl3 x hx; omega) (by omega), ?_⟩
          rintro _ M5 ⟨x, V2, times, ok, rfl, hk5, hs5, hf5, hsm⟩
          obtain ⟨va, vc, hva, _⟩ := id hf5
          subst hva
          have hold5 : ∀ b y, M4.get b = some y → M5.get b = some y := fun b y hb => hk5.1 b y (get_live hb) hb
          have hxv : (stepC (x, .slice va x.files.length vc)) = [.int .i64 x.kind, .int .i64 x.n, .slice va x.files.length vc, .string (str x.text), .bool x.drop, .int .i64 x.delay, .int .i64 x.copies] := rfl
          rw [hxv]
          simp only [zZ, reduceIte, Nat.reduceLT, Int.reduceToNat, Int.reduceLE, Int.reduceEq, Int.reduceLT, Nat.reduceEqDiff, Nat.reduceAdd, zTy, halS, Mem.get_push_new, push_set]
          rw [← hxv]
          obtain ⟨M6, hM6⟩ : ∃ M6, M6 = M5.push (.cells false s2 (stepC (x, .slice va x.files.length vc))) := ⟨_, rfl⟩
          rw [← hM6]
          have hold6 : ∀ b y, M4.get b = some y → M6.get b = some y := fun b y hb => by rw [hM6, Mem.get_push_old (get_live (hold5 b y hb))]; exact hold5 b y hb
          have hx6 : M6.get M5.size = some (.cells false s2 (stepC (x, .slice va x.files.length vc))) := by rw [hM6, Mem.get_push_new]
          have hf6 : FilesAt M6 (.slice va x.files.length vc) x.files := by rw [hM6]; exact (Keeps.push 0 M5 _).files hf5
          have hs6 : M6.size = M5.size + 1 := by rw [hM6, Mem.size_push]
          clear hM6
          have hold36 : ∀ b y, b < m.size + 3 → M3.get b = some y → M6.get b = some y := fun b y hb hy => hold6 b y (hold34 b y hb hy)
          obtain ⟨_, hb6, hc6, _⟩ := grow M6 hold36
          have h76 := hold6 _ _ h74
          have hst6 : StepsAt M6 (m.size + 4) (m.size + 3) V LV := hst.same fun b y hb => hold6 b y (hold4 b y hb)
          obtain ⟨ua, ul, uc, hV⟩ := (hst6.scr (by omega)).2
          have hVl : V = .slice ua LV.length uc := by
            rcases hst6.2 with ⟨e1, e2⟩ | ⟨_, g, _, _, e2, _⟩
            · rw [hV] at e2
              cases e2
              rw [hV, e1]; rfl
            · rw [hV] at e2
              cases e2
              exact hV
          subst hVl
          clear hV
          have hlen0 : (LV.map Prod.fst).length = LV.length := List.length_map ..
          cases hso : stepOf ws with
          | none =>
            rw [hso] at hsm hun
            have hok : ok = false := hsm
            subst hok
            have zp := zput M6 hb6
            refine CW_seq (CW_seq (CW_region ?_))
            simp only [zZ, reduceIte, Nat.reduceLT, Int.reduceToNat, Int.reduceLE, Int.reduceEq, Int.reduceLT, Nat.reduceEqDiff, Nat.reduceAdd, zTy]
            refine CW_cond true (by rfl) (fun _ => CW_seq (CW_region ?_)) (fun h => by cases h)
            simp only [zZ, reduceIte, Nat.reduceLT, Int.reduceToNat, Int.reduceLE, Int.reduceEq, Int.reduceLT, Nat.reduceEqDiff, Nat.reduceAdd, zTy, hc6, zrow, zp, hti]
            refine CW_ret ?_
            simp only [zZ, reduceIte, Nat.reduceLT, Int.reduceToNat, Int.reduceLE, Int.reduceEq, Int.reduceLT, Nat.reduceEqDiff, Nat.reduceAdd, zTy, mEnd, sAnswer, sAnswer.sRes, aLoad_g, Mem.get_set_same hb6]
            exact badline _ _ hun hold36 (by omega)
          | some yy =>
            obtain ⟨yx, tm⟩ := yy
            rw [hso] at hsm hun
            obtain ⟨hok, hxy, htm⟩ := hsm
            simp only at hxy htm
            subst hok hxy htm
            have hadd : addS (LV.map Prod.fst) (some (x, tm)) = if LV.length + tm ≤ 4096 then some (LV.map Prod.fst ++ List.replicate tm x) else none := by
              rw [← hlen0]; rfl
            simp only at hun
            rw [hadd] at hun
            have htm : tm ≤ 1000 := stepOf_times hso
            have wsum : IntKind.i64.wrap ((LV.length : Int) + (tm : Int)) = ((LV.length + tm : Nat) : Int) := by rw [wr (by omega) (by omega)]; omega
            refine CW_seq (CW_seq (CW_region ?_))
            simp only [zZ, reduceIte, Nat.reduceLT, Int.reduceToNat, Int.reduceLE, Int.reduceEq, Int.reduceLT, Nat.reduceEqDiff, Nat.reduceAdd, zTy, h76, wsum]
            refine CW_cond (decide ((4096 : Int) < ((LV.length + tm : Nat) : Int))) (by rfl) (fun hbig => CW_seq (CW_region ?_)) (fun hbig => CW_skip ?_)
            · have hbig := of_decide_eq_true hbig
              rw [if_neg (by omega)] at hun
              have zp := zput M6 hb6
              simp only [zZ, reduceIte, Nat.reduceLT, Int.reduceToNat, Int.reduceLE, Int.reduceEq, Int.reduceLT, Nat.reduceEqDiff, Nat.reduceAdd, zTy, hc6, zrow, zp, hti]
              refine CW_ret ?_
              simp only [zZ, reduceIte, Nat.reduceLT, Int.reduceToNat, Int.reduceLE, Int.reduceEq, Int.reduceLT, Nat.reduceEqDiff, Nat.reduceAdd, zTy, mEnd, sAnswer, sAnswer.sRes, aLoad_g, Mem.get_set_same hb6]
              exact badline _ _ hun hold36 (by omega)
            have hbig := of_decide_eq_false hbig
            have hle : LV.length + tm ≤ 4096 := by omega
            rw [if_pos hle] at hun
            have hone := Step_one (x, .slice va x.files.length vc) va _ vc rfl
            have hnew := new_step1 (x, .slice va x.files.length vc) va _ vc rfl
            have hrow : rowIn 7 0 (some (.cells true s2 (stepC (x, .slice va x.files.length vc)))) = some (.agg (stepC (x, .slice va x.files.length vc)).toArray) := rowIn_whole (stepC_len _)
            obtain ⟨X, hX⟩ : ∃ X : StepL × Value, X = (x, .slice va x.files.length vc) := ⟨_, rfl⟩
            have hf6' : FilesAt M6 X.2 X.1.files := by rw [hX]; exact hf6
            have hXx : X.1 = x := by rw [hX]
            rw [← hX] at hx6 hone hnew hrow ⊢
            simp only [zZ, reduceIte, Nat.reduceLT, Int.reduceToNat, Int.reduceLE, Int.reduceEq, Int.reduceLT, Nat.reduceEqDiff, Nat.reduceAdd]
            refine CW_seq (CW_region ?_)
            simp only [zZ, reduceIte, Nat.reduceLT, Int.reduceToNat, Int.reduceLE, Int.reduceEq, Int.reduceLT, Nat.reduceEqDiff, Nat.reduceAdd, zTy]
            refine CW_block (MW_loop (fun j f M' => ∃ (u : Nat) (V' : Value), u + j = tm ∧ f = [(2, .pointer (some ⟨m.size, 0, none⟩)), (5, .pointer (some ⟨m.size + 1, 0, none⟩)), (6, .slice (some ⟨m.size + 2, 0, none⟩) n n), (7, .pointer (some ⟨m.size + 3, 0, none⟩)), (8, .int .i64 (t : Nat)), (12, .pointer (some ⟨M5.size, 0, none⟩)), (13, .int .i64 (tm : Nat)), (15, .int .i64 (u : Nat))] ∧
              (∀ b y, b < m.size + 3 → M3.get b = some y → M'.get b = some y) ∧ m.size + 3 < M'.size ∧ M'.get M5.size = some (.cells true s2 (stepC X)) ∧ FilesAt M' X.2 X.1.files ∧ M'.get (m.size + 3) = some (.cells false s1 [.int .i64 a, .int .i64 b, .int .i64 c, .int .i64 d, V']) ∧ StepsAt M' (m.size + 4) (m.size + 3) V' (LV ++ List.replicate u X)) tm ?_ ?_)
            · refine ⟨[2, 5, 6, 7, 8, 12, 13, 15], ?_⟩
              simp only [zZ, reduceIte, Nat.reduceLT, Int.reduceToNat, Int.reduceLE, Int.reduceEq, Int.reduceLT, Nat.reduceEqDiff, Nat.reduceAdd, keepF]
              have hM5 : m.size + 3 < M5.size := by omega
              have hsame : ∀ b y, b < M5.size → M6.get b = some y → (fz1 M5.size M6).get b = some y := fun b y hb hy => by rw [fz1_ne (by omega)]; exact hy
              refine ⟨fz1 M5.size M6, fz1_thin _ _, 0, _, by omega, rfl, fun b y hb hy => hsame b y (by omega) (hold36 b y hb hy), by unfold fz1; rw [hx6]; simp only [Mem.size_set]; omega, fz1_get hx6, (Keeps.fz1 0 M6 _ (Nat.zero_le _)).files hf6', hsame _ _ (by omega) h76, ?_⟩
              rw [List.replicate_zero, List.append_nil]
              have hst5 : StepsAt M4 (m.size + 4) (m.size + 3) (.slice ua LV.length uc) LV := hst.same fun b y hb => hold4 b y hb
              exact hst5.same fun b y hb => hsame b y (by have := get_live hb; omega) (hold6 b y hb)
            · rintro j2 f M' ⟨u, V', huj, rfl, gold, gms, gx, gf, g7, gst⟩
              have hui : IntKind.i64.wrap ((u : Int) + 1) = ((u + 1 : Nat) : Int) := by rw [wr (by omega) (by omega)]; omega
              refine CW_seq (CW_seq (CW_region ?_))
              simp only [zZ, reduceIte, Nat.reduceLT, Int.reduceToNat, Int.reduceLE, Int.reduceEq, Int.reduceLT, Nat.reduceEqDiff, Nat.reduceAdd, zTy]
              refine CW_cond (decide ((u : Int) < (tm : Int))) (by rfl) (fun h => CW_skip ?_) (fun h => CW_exit ?_)
              · simp only [zZ, reduceIte, Nat.reduceLT, Int.reduceToNat, Int.reduceLE, Int.reduceEq, Int.reduceLT, Nat.reduceEqDiff, Nat.reduceAdd]
                have hul : u < tm := by have := of_decide_eq_true h; omega
                have hlu : (LV ++ List.replicate u X).length ≤ 5000 := by rw [List.length_append, List.length_replicate]; omega
                obtain ⟨M8, ha8, hs8, hn8, hold8⟩ := stapp gst hlu X
                have h78 := hold8 _ _ (.inr (.inl rfl)) g7
                have hp8 : ∀ (gg nn cc : Nat), putIn 1 M8 (m.size + 3) 4 [.slice (some ⟨gg, 0, none⟩) nn cc] (M8.get (m.size + 3)) = some (M8.set (m.size + 3) (some (.cells false s1 [.int .i64 a, .int .i64 b, .int .i64 c, .int .i64 d, .slice (some ⟨gg, 0, none⟩) nn cc]))) := fun gg nn cc => by rw [h78]; rfl
                refine CW_seq (CW_block (CW_region ?_))
                simp only [zZ, reduceIte, Nat.reduceLT, Int.reduceToNat, Int.reduceLE, Int.reduceEq, Int.reduceLT, Nat.reduceEqDiff, Nat.reduceAdd, zTy, g7, gx, hrow, hnew, ha8, hp8]
                refine CW_region ?_
                simp only [zZ, reduceIte, Nat.reduceLT, Int.reduceToNat, Int.reduceLE, Int.reduceEq, Int.reduceLT, Nat.reduceEqDiff, Nat.reduceAdd, zTy, hui]
                refine ⟨[2, 5, 6, 7, 8, 12, 13, 15], ?_⟩
                simp only [zZ, reduceIte, Nat.reduceLT, Int.reduceToNat, Int.reduceLE, Int.reduceEq, Int.reduceLT, Nat.reduceEqDiff, Nat.reduceAdd, keepF]
                have hk8 : Keeps 0 M' (M8.set (m.size + 3) (some (.cells false s1 [.int .i64 a, .int .i64 b, .int .i64 c, .int .i64 d, .slice (some ⟨M'.size + 1, 0, none⟩) ((LV ++ List.replicate u X).length + 1) ((LV ++ List.replicate u X).length + 1)]))) := ⟨fun b y hb _ => by omega, fun b s' cs' hb => by
                  have := hold8 b _ (.inr (.inr ⟨s', cs', rfl⟩)) hb
                  rw [Mem.get_set_ne (fun e => by rw [← e, h78] at this; cases this)]
                  exact this⟩
                refine ⟨_, Thin.refl _, j2 - 1, ⟨u + 1, _, by omega, rfl, fun b y hb hy => ?_, by rw [Mem.size_set]; omega, hk8.2 _ _ _ gx, hk8.files gf, Mem.get_set_same h78 _, ?_⟩, by omega⟩
                · rw [Mem.get_set_ne (by omega)]
                  exact hold8 b y (.inl (by omega)) (gold b y hb hy)
                · have hl2 : LV ++ List.replicate (u + 1) X = (LV ++ List.replicate u X) ++ [X] := by rw [List.append_assoc, List.replicate_succ']
                  rw [hl2]
                  refine ⟨fun z hz => ?_, .inr ⟨by simp, M'.size + 1, by omega, by omega, by simp; omega, ?_⟩⟩
                  · rcases List.mem_append.1 hz with hz | hz
                    · exact hk8.files (gst.1 z hz)
                    · simp only [List.mem_singleton] at hz; subst hz; exact hk8.files gf
                  · rw [Mem.get_set_ne (by omega)]; exact hn8
              · simp only [zZ, reduceIte, Nat.reduceLT, Int.reduceToNat, Int.reduceLE, Int.reduceEq, Int.reduceLT, Nat.reduceEqDiff, Nat.reduceAdd]
                have hul : u = tm := by have := of_decide_eq_false h; omega
                refine ⟨[2, 5, 6, 7, 8], ?_⟩
                simp only [zZ, reduceIte, Nat.reduceLT, Int.reduceToNat, Int.reduceLE, Int.reduceEq, Int.reduceLT, Nat.reduceEqDiff, Nat.reduceAdd, keepF]
                refine ⟨_, Thin.refl _, a, b, c, d, LV ++ List.replicate u X, V', by rw [List.length_append, List.length_replicate]; omega, ?_, gold, gms, g7, gst⟩
                rw [hun, hul, List.map_append, List.map_replicate, hXx]
                rfl
      · rintro f M' ⟨a', b', c', d', LV', V', hl', hun', rfl, g1, g2, g3, g4⟩
        refine CW_region ?_
        simp only [zZ, reduceIte, Nat.reduceLT, Int.reduceToNat, Int.reduceLE, Int.reduceEq, Int.reduceLT, Nat.reduceEqDiff, Nat.reduceAdd, zTy, hti]
        refine ⟨[2, 5, 6, 7, 8], ?_⟩
        simp only [zZ, reduceIte, Nat.reduceLT, Int.reduceToNat, Int.reduceLE, Int.reduceEq, Int.reduceLT, Nat.reduceEqDiff, Nat.reduceAdd, keepF]
        exact ⟨_, Thin.refl _, j - 1, ⟨t + 1, a', b', c', d', LV', V', by omega, hl', hun', rfl, g1, g2, g3, g4⟩, by omega⟩
    · simp only [zZ, reduceIte, Nat.reduceLT, Int.reduceToNat, Int.reduceLE, Int.reduceEq, Int.reduceLT, Nat.reduceEqDiff, Nat.reduceAdd]
      have htl : t = q.length := by have := of_decide_eq_false h; omega
      have hdn : q.drop t = [] := List.drop_eq_nil_of_le (by omega)
      rw [hdn, runLines] at hun
      obtain ⟨hscr, va, vn, vc, hV⟩ := hst.scr (by omega)
      subst hV
      have hput : putIn 5 M m.size 0 [.int .i64 a, .int .i64 b, .int .i64 c, .int .i64 d, .slice va vn vc] (M.get m.size) = some (M.set m.size (some (.cells false s1 [.int .i64 a, .int .i64 b, .int .i64 c, .int .i64 d, .slice va vn vc]))) := by rw [hbM, hZ]; rfl
      refine CW_seq (CW_region ?_)
      simp only [zZ, reduceIte, Nat.reduceLT, Int.reduceToNat, Int.reduceLE, Int.reduceEq, Int.reduceLT, Nat.reduceEqDiff, Nat.reduceAdd, zTy, h7, hput]
      refine CW_ret ?_
      simp only [zZ, reduceIte, Nat.reduceLT, Int.reduceToNat, Int.reduceLE, Int.reduceEq, Int.reduceLT, Nat.reduceEqDiff, Nat.reduceAdd, zTy, mEnd, sAnswer, sAnswer.sRes, aLoad_g, Mem.get_set_same hbM]
      refine ⟨_, Thin.refl _, (hset _ _ hkM (by omega) hbM).1, (hset _ _ hkM (by omega) hbM).2, .slice va vn vc, by rw [hun]; rfl, ?_⟩
      rw [hun]
      exact ((hst.set_low (b := m.size) (by omega) hbM _).scr (by omega)).1
end Go.Proofs.YthcleiegefhmdaaGreatDoor
namespace Go.Proofs.YthcleiegefhmdaaGreatDoor
open Go.RowKit Abs
set_option maxRecDepth 100000 in
set_option maxHeartbeats 2000000 in
theorem same_spec (x : PS) (a b : Option Addr) (ca cb : Nat) (m : Mem) (hA : ScrAt m (.slice a x.2.2.2.2.length ca) x.2.2.2.2) (hB : ScrAt m (.slice b x.2.2.2.2.length cb) x.2.2.2.2) (hl : x.2.2.2.2.length ≤ 1000000000) (hfl : ∀ y ∈ x.2.2.2.2, y.files.length ≤ 1000000000) :
    Abs.Spec Tryz.prog 6 [scrAgg x (.slice a x.2.2.2.2.length ca), scrAgg x (.slice b x.2.2.2.2.length cb)] m fun u M => u = .bool true ∧ M = m := by
  refine Abs.Spec.walkB Tryz.func6 (by rfl) _ Tryz.results6 _ Tryz.ntmps6 (by simp) m [] (ext_nil m).symm 0 rfl (.inl rfl) ?_
  intro hc hx
  obtain ⟨x0, x1, x2, x3, L⟩ := x
  have bA : nBox Tryz.prog 26 (scrAgg (x0, x1, x2, x3, L) (.slice a L.length ca)) = some (.cells false (aStride Tryz.prog 26) [.int .i64 x0, .int .i64 x1, .int .i64 x2, .int .i64 x3, .slice a L.length ca]) := bx_Scr _ rfl
  have bB : nBox Tryz.prog 31 (scrAgg (x0, x1, x2, x3, L) (.slice b L.length cb)) = some (.cells false (aStride Tryz.prog 31) [.int .i64 x0, .int .i64 x1, .int .i64 x2, .int .i64 x3, .slice b L.length cb]) := bx_RScr _ rfl
  generalize aStride Tryz.prog 26 = s1 at bA
  generalize aStride Tryz.prog 31 = s2 at bB
  have zz : ∀ k : Int, (k == k) = true := fun k => by simp
  simp only at hA hB hl hfl ⊢
  have grow : ∀ l V, ScrAt m V L → ScrAt (ext m l) V L := fun l V h => by
    obtain ⟨LV, h1, h2, h3⟩ := h
    exact ⟨LV, h1, fun q hq => (Keeps.ext 0 m l).files (h2 q hq), h3.grow (Grows.ext m l)⟩
  refine CW_seq (CW_region ?_)
  simp only [zZ, reduceIte, Nat.reduceLT, Int.reduceToNat, Int.reduceLE, Int.reduceEq, Int.reduceLT, Nat.reduceEqDiff, Nat.reduceAdd, zTy, bA, bB]
  refine CW_seq (CW_region ?_)
  simp only [zZ, reduceIte, Nat.reduceLT, Int.reduceToNat, Int.reduceLE, Int.reduceEq, Int.reduceLT, Nat.reduceEqDiff, Nat.reduceAdd, zTy, zz]
  refine ⟨by kernel_rfl, _, samesteps_spec L a b ca cb _ (grow _ _ hA) (grow _ _ hB) hl hfl, ?_⟩
  rintro _ _ ⟨rfl, rfl⟩
  simp only [zZ, reduceIte, Nat.reduceLT, Int.reduceToNat, Int.reduceLE, Int.reduceEq, Int.reduceLT, Nat.reduceEqDiff, Nat.reduceAdd, zTy]
  refine CW_ret ?_
  simp only [zZ, reduceIte, Nat.reduceLT, Int.reduceToNat, Int.reduceLE, Int.reduceEq, Int.reduceLT, Nat.reduceEqDiff, Nat.reduceAdd, zTy, bEnd, sAnswer, sAnswer.sRes]
  exact told_flat rfl rfl
end Go.Proofs.YthcleiegefhmdaaGreatDoor
namespace Go.Proofs.YthcleiegefhmdaaGreatDoor
open Go.RowKit Abs
theorem slice_to (get : Nat → Option Blk) (s : ByteArray) (k : Nat) (h : k ≤ s.size) : gSlice Tryz.prog get 9 (.string s) none (some (.int .i64 (k : Int))) = some (.string (str (s.data.toList.take k))) := by
  have hbs : bsize s = s.size := rfl
  unfold gSlice aBound
  simp only [Tryz.underlying9, hbs]
  rw [if_pos (by omega)]
  rfl
set_option maxRecDepth 100000 in
set_option maxHeartbeats 4000000 in
theorem parses_spec (s : ByteArray) (m : Mem) : Abs.Spec Tryz.prog 3 [.string s] m fun u M => u = .bool true := by
  refine Abs.Spec.walkM Tryz.func3 (by rfl) _ Tryz.results3 _ Tryz.ntmps3 (by simp) ?_
  intro hc hx k
  have hal := al_Scr
  have halR := al_RScr
  generalize aStride Tryz.prog 26 = s1 at hal
  generalize aStride Tryz.prog 31 = s2 at halR
  have hbs : bsize s = s.size := rfl
  refine CW_seq (CW_region ?_)
  simp only [zZ, reduceIte, Nat.reduceLT, Int.reduceToNat, Int.reduceLE, Int.reduceEq, Int.reduceLT, Nat.reduceEqDiff, Nat.reduceAdd, zTy]
  refine MW_mid (fun f M => ∃ q : List UInt8, q.length ≤ 20000 ∧ f = [(0, .string (str q))] ∧ M = m) (CW_seq (CW_region ?_)) ?_
  · simp only [zZ, reduceIte, Nat.reduceLT, Int.reduceToNat, Int.reduceLE, Int.reduceEq, Int.reduceLT, Nat.reduceEqDiff, Nat.reduceAdd, zTy, hbs]
    refine CW_cond (decide ((20000 : Int) < (s.size : Int))) (by rfl) (fun h => CW_region ?_) (fun h => CW_skip ?_)
    · have hlt : 20000 < s.size := by have := of_decide_eq_true h; omega
      have hsl : ∀ get, gSlice Tryz.prog get 9 (.string s) none (some (.int .i64 20000)) = some (.string (str (s.data.toList.take 20000))) := fun get => slice_to get s 20000 (by omega)
      simp only [zZ, reduceIte, Nat.reduceLT, Int.reduceToNat, Int.reduceLE, Int.reduceEq, Int.reduceLT, Nat.reduceEqDiff, Nat.reduceAdd, zTy, hsl]
      refine ⟨[0], ?_⟩
      simp only [zZ, reduceIte, Nat.reduceLT, Int.reduceToNat, Int.reduceLE, Int.reduceEq, Int.reduceLT, Nat.reduceEqDiff, Nat.reduceAdd, keepF]
      exact ⟨m, Thin.refl _, _, by rw [List.length_take]; omega, rfl, rfl⟩
    · have hle : s.size ≤ 20000 := by have := of_decide_eq_false h; omega
      simp only [zZ, reduceIte, Nat.reduceLT, Int.reduceToNat, Int.reduceLE, Int.reduceEq, Int.reduceLT, Nat.reduceEqDiff, Nat.reduceAdd, zTy]
      refine ⟨[0], ?_⟩
      simp only [zZ, reduceIte, Nat.reduceLT, Int.reduceToNat, Int.reduceLE, Int.reduceEq, Int.reduceLT, Nat.reduceEqDiff, Nat.reduceAdd, keepF]
      exact ⟨m, Thin.refl _, s.data.toList, by rw [show s.data.toList.length = s.size from rfl]; exact hle, rfl, rfl⟩
  · rintro f M ⟨q, hq, rfl, rfl⟩
    obtain ⟨⟨x, n, e⟩, hr⟩ : ∃ r, r = parseV q := ⟨_, rfl⟩
    have hok : x.2.2.2.2.length ≤ 4096 ∧ ∀ y ∈ x.2.2.2.2, StepOk y := by
      rcases parse_good (by omega) hr.symm with ⟨_, _, w0, _, _, _, _, _, _, _, hg, hl, _⟩ | ⟨_, rfl⟩
      · refine ⟨hl, fun y hy => ?_⟩
        rcases hg y hy with rfl | ⟨_, w, _, h1, h2, _⟩
        · exact exTick_ok
        · exact step_ok h2 h1
      · exact ⟨by decide, fun y hy => by cases hy⟩
    refine CW_seq (CW_region ?_)
    simp only [zZ, reduceIte, Nat.reduceLT, Int.reduceToNat, Int.reduceLE, Int.reduceEq, Int.reduceLT, Nat.reduceEqDiff, Nat.reduceAdd, zTy]
    refine ⟨by kernel_rfl, _, parse_spec pathOk q (by omega) M, ?_⟩
    rw [← hr]
    rintro _ M1 ⟨hk1, hs1, V1, rfl, hV1⟩
    simp only at hV1
    obtain ⟨a1, c1, rfl, _⟩ := id hV1.choose_spec.2.2
    simp only [zZ, reduceIte, Nat.reduceLT, Int.reduceToNat, Int.reduceLE, Int.reduceEq, Int.reduceLT, Nat.reduceEqDiff, Nat.reduceAdd, zTy, scrAgg, hal, Mem.get_push_new, push_set]
    obtain ⟨M2, hM2⟩ : ∃ M2, M2 = M1.push (.cells false s1 [.int .i64 x.1, .int .i64 x.2.1, .int .i64 x.2.2.1, .int .i64 x.2.2.2.1, .slice a1 x.2.2.2.2.length c1]) := ⟨_, rfl⟩
    rw [← hM2]
    have hold2 : ∀ b x, M1.get b = some x → M2.get b = some x := fun b x hx => by rw [hM2, Mem.get_push_old (get_live hx)]; exact hx
    have hb2 : M2.get M1.size = some (.cells false s1 [.int .i64 x.1, .int .i64 x.2.1, .int .i64 x.2.2.1, .int .i64 x.2.2.2.1, .slice a1 x.2.2.2.2.length c1]) := by rw [hM2, Mem.get_push_new]
    refine CW_seq (CW_region ?_)
    simp only [zZ, reduceIte, Nat.reduceLT, Int.reduceToNat, Int.reduceLE, Int.reduceEq, Int.reduceLT, Nat.reduceEqDiff, Nat.reduceAdd, zTy]
    refine ⟨by kernel_rfl, _, rparse_spec q (by omega) M2, ?_⟩
    rw [← hr]
    rintro _ M3 ⟨hk3, hs3, V3, rfl, hV3⟩
    simp only at hV3
    obtain ⟨a3, c3, rfl, _⟩ := id hV3.choose_spec.2.2
    simp only [zZ, reduceIte, Nat.reduceLT, Int.reduceToNat, Int.reduceLE, Int.reduceEq, Int.reduceLT, Nat.reduceEqDiff, Nat.reduceAdd, zTy, scrAgg, halR, Mem.get_push_new, push_set]
    obtain ⟨M4, hM4⟩ : ∃ M4, M4 = M3.push (.cells false s2 [.int .i64 x.1, .int .i64 x.2.1, .int .i64 x.2.2.1, .int .i64 x.2.2.2.1, .slice a3 x.2.2.2.2.length c3]) := ⟨_, rfl⟩
    rw [← hM4]
    have hold4 : ∀ b x, M3.get b = some x → M4.get b = some x := fun b x hx => by rw [hM4, Mem.get_push_old (get_live hx)]; exact hx
    have hb4 : M4.get M3.size = some (.cells false s2 [.int .i64 x.1, .int .i64 x.2.1, .int .i64 x.2.2.1, .int .i64 x.2.2.2.1, .slice a3 x.2.2.2.2.length c3]) := by rw [hM4, Mem.get_push_new]
    have hold24 : ∀ b x, M2.get b = some x → M4.get b = some x := fun b x hx => hold4 b x (keeps_old hk3 b x hx)
    have hb24 := hold24 _ _ hb2
    have nn : ((n == n) = true) ∧ ((e == e) = true) := ⟨by simp, by simp⟩
    refine CW_seq (CW_region ?_)
    simp only [zZ, reduceIte, Nat.reduceLT, Int.reduceToNat, Int.reduceLE, Int.reduceEq, Int.reduceLT, Nat.reduceEqDiff, Nat.reduceAdd, zTy, hb24, hb4]
    have hsame := same_spec x a1 a3 c1 c3 M4 (ScrAt.keep hV1 fun b x hx => hold24 b x (hold2 b x hx)) (ScrAt.keep hV3 hold4) (by omega) (fun y hy => by have := (hok.2 y hy).files; omega)
    refine ⟨by kernel_rfl, _, hsame, ?_⟩
    rintro _ M9 ⟨rfl, e9⟩
    replace e9 := e9.symm
    subst e9
    simp only [zZ, reduceIte, Nat.reduceLT, Int.reduceToNat, Int.reduceLE, Int.reduceEq, Int.reduceLT, Nat.reduceEqDiff, Nat.reduceAdd, zTy, nn.1, nn.2]
    refine ⟨by kernel_rfl, _, awake_spec M4, ?_⟩
    rintro _ M5 ⟨rfl, _⟩
    simp only [zZ, reduceIte, Nat.reduceLT, Int.reduceToNat, Int.reduceLE, Int.reduceEq, Int.reduceLT, Nat.reduceEqDiff, Nat.reduceAdd, zTy]
    refine CW_ret ?_
    simp only [zZ, reduceIte, Nat.reduceLT, Int.reduceToNat, Int.reduceLE, Int.reduceEq, Int.reduceLT, Nat.reduceEqDiff, Nat.reduceAdd, zTy, mEnd, sAnswer, sAnswer.sRes]
    exact ⟨M5, Thin.refl _⟩
#print axioms parses_spec
end Go.Proofs.YthcleiegefhmdaaGreatDoor
namespace Go.Proofs.YthcleiegefhmdaaGreatDoor
open Go.ChangeShapes Go.WideShapes Go.ChangeAt Go.RowKit Abs
theorem tab_of_reads {P : Program} {W : World} {name : String} {k : IntKind} {zs : List Int} {g : Nat} {t e : TypeId} {n : Nat}
    (hg : P.globalNamed name = some g) (hty : (P.globals[g]?).map (·.type) = some t) (ht : P.underlying t = some (.array n e)) (he : P.underlying e = some (.int k)) (hce : P.cellsOf e = 1) (hct : P.cellsOf t = n)
    (h : Lib.VarReads P W name (Lib.tabData k zs)) : Lib.TabIs P W name k zs := by
  obtain ⟨g', t', cs, fuel, p, hg', ht', hvar, hd⟩ := h
  obtain rfl := Option.some.inj (hg.symm.trans hg')
  obtain rfl := Option.some.inj (hty.symm.trans ht')
  unfold Lib.TabIs
  rw [hvar, ← Lib.cells_of_tab ht he hce hct hd]
theorem err_of_reads {P : Program} {W : World} {name : String} {d : DataW Unit} {g : Nat} {t : TypeId} {ms : Array (String × TypeId)}
    (hg : P.globalNamed name = some g) (hty : (P.globals[g]?).map (·.type) = some t) (ht : P.underlying t = some (.interface ms)) (h : Lib.VarReads P W name d) :
    ∃ ev, W.cell? ⟨g, 0, none⟩ = some ev ∧ (ev = .nilIface ∨ ∃ te pe, ev = .iface te pe) := by
  obtain ⟨g', t', cs, fuel, p, hg', ht', hvar, hd⟩ := h
  obtain rfl := Option.some.inj (hg.symm.trans hg')
  obtain rfl := Option.some.inj (hty.symm.trans ht')
  have hc := World.var?_cell hg hvar 0
  obtain ⟨l⟩ := cs
  cases fuel with
  | zero => simp [DataW.trod] at hd
  | succ fuel =>
    unfold DataW.trod at hd
    rw [ht] at hd
    rcases l with _ | ⟨v, _ | ⟨b, r⟩⟩
    · simp at hd
    · cases v <;> first | (simp at hd; done) | exact ⟨_, hc.trans rfl, .inl rfl⟩ | exact ⟨_, hc.trans rfl, .inr ⟨_, _, rfl⟩⟩
    · cases v <;> simp at hd
theorem returns_of_walked_card {C : Checked} {os : Os} {n : FuncId} {f : Func} {s : ChangeSpec} {tb : TypeId} {laid : List (String × DataW Unit)} (own : ownKnob C.prog.godebug = none) (started : os.Started)
    (noInit : C.prog.inits.idxOf? n = none) (hf : C.prog.funcs[n]? = some f) (hl : laidOutB C.prog = true)
    (hs : IsLaw s f.params.size) (hr : f.resultTypes = #[tb]) (hu : C.prog.underlying tb = some .bool) (hp : ∀ t ∈ f.params.toList, C.prog.readableRec t = true ∧ t < C.prog.types.size)
    (hpl : (laid.all fun x => x.2.handleName?.isNone) = true)
    {H : Type} {enc : TypeId × Value → H} (F : Stop.Interp)
    (witness : ∃ (w : World) (tape : Tape) (i : Input), w.os = os ∧ (w.forCall tape i).Shaped C.prog ∧ i.vars = [] ∧ Input.okWide C.prog (w.forCall tape i) .any w.heap.size n i ∧
      (OpenSpec.ofChange s).preRow enc C.prog f [] false laid (w.forCall tape i).memory i.args ∧ Assume.holds {} C.prog (lone (Frame.enter C.prog n i.args .normal) [] (w.forCall tape i)))
    (walk : ∀ (W : World) (base : Nat) (args : Array Value) (ds : List (DataW H)) (ps : List MemPlace), laidMet C.prog laid W → W.ShapedOpen C.prog → (∀ (j : Nat) t v, f.params[j]? = some t → args[j]? = some v → Value.okWide C.prog W .any base t v) →
      DataW.TrodAll enc C.prog W 0 (fun _ => true) true f.params.toList args.toList ds ps → (∀ x ∈ DataW.weightsEach C.prog f.params.toList ds, x ≤ reachBytes) →
      Calls C.prog n args W fun e W' => e = .returned (.bool true) ∧ Below W.heap.size W W') :
    ReturnsInHanded {} C os n .any ((OpenSpec.ofChange s).preRow enc C.prog f [] false laid) (((OpenSpec.ofChange s).at F).post enc C.prog f false true false false) := by
  refine returnsInHanded_of_row (C := C) (s := OpenSpec.ofChange s) own started noInit hf witness ?_
  intro W base args ds gs before hval hW _ _ hz hL hS _
  obtain ⟨p, q, hA, hV, rfl, hfz, hnd⟩ := id hW
  have hv : (OpenSpec.ofChange s).vars = [] := hs.1
  have hv0 : s.vars = [] := hs.1
  rw [hv] at hV
  obtain ⟨rfl, rfl⟩ := trodVars_none hV
  rw [List.append_nil] at hz
  have hz' : ∀ x ∈ DataW.weightsEach C.prog f.params.toList ds, x ≤ reachBytes := by
    have e : (OpenSpec.ofChange s).bare.plain.varTypes C.prog = [] := by
      show s.plain.varTypes C.prog = []
      simp [ChangeSpec.plain, hv0, DataSpec.varTypes]
    rw [e, List.append_nil] at hz
    intro x hx
    simpa using List.all_eq_true.1 hz x hx
  rw [MakeChecks.laidMetH_plain _ _ _ hpl] at hL
  refine (walk W base args ds p hL hS hval hA hz').mono fun e W' ⟨he, hb⟩ => ?_
  exact ⟨_, he, law_post hl hs hr hu hp hW hb⟩
end Go.Proofs.YthcleiegefhmdaaGreatDoor
