/-
  The walk of depot.Open on a disk of zeros, but for its epoch.
  strings.Builder: its contracts in an abstract memory. (A builder's variable and its buffer are marked: their types are told.)
  Texts, one behind the other; digits.
  The walk of scrub.Text.
  The walk of scrub.Text: the whole.
  The walk of disk.New.
  The walk of the law's waking: a disk of zeros is opened, scanned, told.
  A text, cut.
  The walk of the law ScrubSmall.
-/
import Derived.Test.YtmnebimijlnlkaaGreatDoorPart08
import Derived.Test.YtmnebimijlnlkaaGreatDoorPart07
import Derived.Lib.Builder
import Derived.Lib.UnsafeStr
import Derived.WalkKit
import Derived.Lib.AtoiAllCases
import Derived.Lib.ItoaMem
set_option linter.unusedSimpArgs false
set_option linter.unusedVariables false
set_option linter.unusedSectionVars false
set_option linter.unnecessarySimpa false
set_option linter.defProp false
namespace Go.Proofs.YtmnebimijlnlkaaGreatDoor
open Go.RowKit Abs
def depC (p : Nat) (key : ByteArray) (e : Int) : List Value := [dp p, .string key, .int .i64 e, .pointer none, .pointer none, .pointer none, .pointer none, .pointer none, .pointer none, .pointer none, .pointer none, .pointer none, .pointer none, .pointer none, .pointer none, .int .i64 0]
set_option maxRecDepth 100000 in
set_option maxHeartbeats 4000000 in
theorem open_blank (M : Mem) (p q g : Nat) (d : Dsk) (e : Int) (hb : BlankD d e) (hd : DskAt M p q g d) (secret : ByteArray) (hsec : secret.size ≤ 1000000) (hn : 13 ≤ d.old.length) (hnx : (d.nextE 0).2.2 = 0) :
    Abs.Spec Tryz.prog 15 [dp p, .string secret] M fun u M' => ∃ dep, u = .tuple #[dp dep, .int .i64 0] ∧ (∃ s, M'.get dep = some (.cells false s (depC p (str (Sha.headKey secret.data.toList)) (d.nextE 0).2.1))) ∧ M.size ≤ dep ∧ DskAt M' p q g (d.nextE 0).1 ∧ Only [p, q, g] M M' ∧ M.size ≤ M'.size := by
  refine Abs.Spec.walkM Tryz.func15 (by rfl) _ Tryz.results15 _ Tryz.ntmps15 (by simp [dp]) ?_
  intro hc hx k
  have hN := hb.ok.n
  have hpl : p < M.size := by obtain ⟨s, h⟩ := hd.row; exact get_live h
  have hql : q < M.size := get_live hd.kv
  have hgl0 : g < M.size := get_live hd.old
  have hdp : dp p = .pointer (some ⟨p, 0, none⟩) := rfl
  refine CW_seq (CW_region ?_)
  simp only [zZ, reduceIte, Nat.reduceLT, Int.reduceToNat, Int.reduceLE, Int.reduceEq, Int.reduceLT, Nat.reduceEqDiff, Nat.reduceAdd, zDk, pd_eql, pd_neq, pd_eql0, pd_neq0]
  refine CW_seq (CW_seq (CW_region ?_))
  simp only [zZ, reduceIte, Nat.reduceLT, Int.reduceToNat, Int.reduceLE, Int.reduceEq, Int.reduceLT, Nat.reduceEqDiff, Nat.reduceAdd, zDk, pd_eql, pd_neq, pd_eql0, pd_neq0]
  refine ⟨by kernel_rfl, _, dlen_spec M p q g d hd, ?_⟩
  rintro _ M9 ⟨rfl, e9⟩; replace e9 := e9.symm; subst e9
  simp only [zZ, reduceIte, Nat.reduceLT, Int.reduceToNat, Int.reduceLE, Int.reduceEq, Int.reduceLT, Nat.reduceEqDiff, Nat.reduceAdd, zDk, pd_eql, pd_neq, pd_eql0, pd_neq0]
  refine CW_cond (decide ((d.old.length : Int) < 13)) (by rfl) (fun h => absurd (of_decide_eq_true h) (by omega)) (fun h => CW_skip ?_)
  simp only [zZ, reduceIte, Nat.reduceLT, Int.reduceToNat, Int.reduceLE, Int.reduceEq, Int.reduceLT, Nat.reduceEqDiff, Nat.reduceAdd, zDk, pd_eql, pd_neq, pd_eql0, pd_neq0]
  refine CW_seq (CW_region ?_)
  simp only [zZ, reduceIte, Nat.reduceLT, Int.reduceToNat, Int.reduceLE, Int.reduceEq, Int.reduceLT, Nat.reduceEqDiff, Nat.reduceAdd, zDk, pd_eql, pd_neq, pd_eql0, pd_neq0]
  refine ⟨by kernel_rfl, _, keys_spec secret _ (by omega) (by decide) M, ?_⟩
  rintro _ M9 ⟨rfl, e9⟩; replace e9 := e9.symm; subst e9
  obtain ⟨key, hkey⟩ : ∃ key, key = str (Sha.headKey secret.data.toList) := ⟨_, rfl⟩
  rw [← hkey]
  have hkv : keysV secret.data.toList (⟨#[]⟩ : ByteArray).data.toList = .agg #[.string (str (Sha.encKey secret.data.toList [])), .string (str (Sha.macKey secret.data.toList [])), .string key] := by rw [hkey]; rfl
  rw [hkv]
  have hfld : vField Tryz.prog 67 (some (.agg #[.string (str (Sha.encKey secret.data.toList [])), .string (str (Sha.macKey secret.data.toList [])), .string key])) 2 = some (.string key) := by rfl
  have hbd : aBuild Tryz.prog 112 [(0, .pointer (some ⟨p, 0, none⟩)), (1, .string key)] = some (.agg (depC p key 0).toArray) := by kernel_rfl
  have hbx : nBox Tryz.prog 112 (.agg (depC p key 0).toArray) = some (.cells false (aStride Tryz.prog 112) (depC p key 0)) := bx_Dep _ rfl
  generalize aStride Tryz.prog 112 = s1 at hbx
  simp only [zZ, reduceIte, Nat.reduceLT, Int.reduceToNat, Int.reduceLE, Int.reduceEq, Int.reduceLT, Nat.reduceEqDiff, Nat.reduceAdd, zDk, pd_eql, pd_neq, pd_eql0, pd_neq0, hfld, hdp, hbd, hbx]
  obtain ⟨M2, hM2⟩ : ∃ M2, M2 = M.push (.cells false s1 (depC p key 0)) := ⟨_, rfl⟩
  obtain ⟨dep, hdep⟩ : ∃ dep, dep = M.size := ⟨_, rfl⟩
  have hg2 : M2.get dep = some (.cells false s1 (depC p key 0)) := by rw [hM2, hdep, Mem.get_push_new]
  have ho2 : Only [] M M2 := by rw [hM2]; exact Only.push _ _ _
  have hs2 : M2.size = M.size + 1 := by rw [hM2, Mem.size_push]
  rw [← hM2, ← hdep]
  have hd2 : DskAt M2 p q g d := hd.only ho2 (by simp) (by simp) (by simp)
  have hloop : ∀ M', Only [] M2 M' → DskAt M' p q g d ∧ M'.get dep = some (.cells false s1 (depC p key 0)) := fun M' ho => ⟨hd2.only ho (by simp) (by simp) (by simp), ho _ _ (by simp) hg2⟩
  refine CW_seq (CW_seq (CW_region ?_))
  simp only [zZ, reduceIte, Nat.reduceLT, Int.reduceToNat, Int.reduceLE, Int.reduceEq, Int.reduceLT, Nat.reduceEqDiff, Nat.reduceAdd, zDk, pd_eql, pd_neq, pd_eql0, pd_neq0]
  refine CW_block (MW_loop (fun j f M' => ∃ i : Nat, j = 8 - i ∧ i ≤ 8 ∧ f = [(0, .pointer (some ⟨p, 0, none⟩)), (6, .pointer (some ⟨dep, 0, none⟩)), (29, .int .i64 (i : Nat))] ∧ Only [] M2 M' ∧ M2.size ≤ M'.size) 8 ?_ ?_)
  · refine ⟨[0, 6, 29], ?_⟩
    simp only [zZ, reduceIte, Nat.reduceLT, Int.reduceToNat, Int.reduceLE, Int.reduceEq, Int.reduceLT, Nat.reduceEqDiff, Nat.reduceAdd, keepF]
    exact ⟨M2, Thin.refl _, 0, rfl, by omega, rfl, Only.refl _ _, Nat.le_refl _⟩
  · rintro j f M' ⟨i, rfl, hi8, rfl, ho, hss⟩
    obtain ⟨hd', hg'⟩ := hloop M' ho
    refine CW_seq (CW_region ?_)
    simp only [zZ, reduceIte, Nat.reduceLT, Int.reduceToNat, Int.reduceLE, Int.reduceEq, Int.reduceLT, Nat.reduceEqDiff, Nat.reduceAdd, zDk, pd_eql, pd_neq, pd_eql0, pd_neq0]
    refine CW_seq (CW_cond (decide ((i : Int) < 8)) (by rfl) (fun h => CW_skip ?_) (fun h => CW_exit ?_))
    · have h := of_decide_eq_true h
      have hi : i < 8 := by omega
      have w1 : IntKind.i64.wrap (5 + (i : Int)) = ((5 + i : Nat) : Int) := by rw [wri (by omega) (by omega)]; omega
      have w2 : IntKind.i64.wrap ((i : Int) + 1) = ((i + 1 : Nat) : Int) := by rw [wri (by omega) (by omega)]; omega
      have htr := hb.trim (i := 5 + i) (by omega) (by omega)
      have hrd : d.read ((5 + i : Nat) : Int) = (d.sector (5 + i), 0) := by unfold Dsk.read; rw [if_pos (hb.may (by omega))]; rfl
      simp only [zZ, reduceIte, Nat.reduceLT, Int.reduceToNat, Int.reduceLE, Int.reduceEq, Int.reduceLT, Nat.reduceEqDiff, Nat.reduceAdd]
      refine CW_seq (CW_block (CW_seq (CW_region ?_)))
      simp only [zZ, reduceIte, Nat.reduceLT, Int.reduceToNat, Int.reduceLE, Int.reduceEq, Int.reduceLT, Nat.reduceEqDiff, Nat.reduceAdd, zDk, pd_eql, pd_neq, pd_eql0, pd_neq0]
      refine CW_seq (CW_region ?_)
      simp only [zZ, reduceIte, Nat.reduceLT, Int.reduceToNat, Int.reduceLE, Int.reduceEq, Int.reduceLT, Nat.reduceEqDiff, Nat.reduceAdd, zDk, pd_eql, pd_neq, pd_eql0, pd_neq0, w1]
      refine ⟨by kernel_rfl, _, read_spec M' p q g d hd' ((5 + i : Nat) : Int), ?_⟩
      rintro _ M9 ⟨rfl, e9⟩; replace e9 := e9.symm; subst e9
      rw [hrd]
      simp only [zZ, reduceIte, Nat.reduceLT, Int.reduceToNat, Int.reduceLE, Int.reduceEq, Int.reduceLT, Nat.reduceEqDiff, Nat.reduceAdd, zDk, pd_eql, pd_neq, pd_eql0, pd_neq0]
      refine CW_seq (CW_seq (CW_region ?_))
      simp only [zZ, reduceIte, Nat.reduceLT, Int.reduceToNat, Int.reduceLE, Int.reduceEq, Int.reduceLT, Nat.reduceEqDiff, Nat.reduceAdd, zDk, pd_eql, pd_neq, pd_eql0, pd_neq0]
      refine CW_cond false (by rfl) (fun h => by cases h) (fun _ => CW_skip ?_)
      simp only [zZ, reduceIte, Nat.reduceLT, Int.reduceToNat, Int.reduceLE, Int.reduceEq, Int.reduceLT, Nat.reduceEqDiff, Nat.reduceAdd, zDk, pd_eql, pd_neq, pd_eql0, pd_neq0]
      refine CW_seq (CW_region ?_)
      simp only [zZ, reduceIte, Nat.reduceLT, Int.reduceToNat, Int.reduceLE, Int.reduceEq, Int.reduceLT, Nat.reduceEqDiff, Nat.reduceAdd, zDk, pd_eql, pd_neq, pd_eql0, pd_neq0]
      refine ⟨by kernel_rfl, _, ctake_blank M' _ htr.1 htr.2, ?_⟩
      rintro _ M3 ⟨rfl, ho3, hs3⟩
      have hal : nAlloc Tryz.prog 75 = some (.cells false (aStride Tryz.prog 75) zeroExt) := al_Ext
      generalize aStride Tryz.prog 75 = s2 at hal
      have hput : putIn 8 (M3.push (.cells false s2 zeroExt)) M3.size 0 zeroExt ((M3.push (.cells false s2 zeroExt)).get M3.size) = some (M3.push (.cells false s2 zeroExt)) := by
        rw [Mem.get_push_new]
        simp only [putIn]
        rw [if_pos ⟨rfl, by decide, rfl⟩]
        congr 1
        exact push_set _ _ _
      simp only [zZ, reduceIte, Nat.reduceLT, Int.reduceToNat, Int.reduceLE, Int.reduceEq, Int.reduceLT, Nat.reduceEqDiff, Nat.reduceAdd, zDk, pd_eql, pd_neq, pd_eql0, pd_neq0, hal, agg_cells, hput]
      obtain ⟨M4, hM4⟩ : ∃ M4, M4 = M3.push (.cells false s2 zeroExt) := ⟨_, rfl⟩
      have ho4 : Only [] M2 M4 := ho.trans (ho3.trans (by rw [hM4]; exact Only.push _ _ _))
      have hs4 : M4.size = M3.size + 1 := by rw [hM4, Mem.size_push]
      rw [← hM4]
      have q1 : ((8 : Int) == 0) = false := rfl
      refine CW_seq (CW_region ?_)
      simp only [zZ, reduceIte, Nat.reduceLT, Int.reduceToNat, Int.reduceLE, Int.reduceEq, Int.reduceLT, Nat.reduceEqDiff, Nat.reduceAdd, zDk, pd_eql, pd_neq, pd_eql0, pd_neq0, q1]
      refine CW_cond false (by rfl) (fun h => by cases h) (fun _ => CW_skip ?_)
      simp only [zZ, reduceIte, Nat.reduceLT, Int.reduceToNat, Int.reduceLE, Int.reduceEq, Int.reduceLT, Nat.reduceEqDiff, Nat.reduceAdd, zDk, pd_eql, pd_neq, pd_eql0, pd_neq0]
      refine CW_region ?_
      simp only [zZ, reduceIte, Nat.reduceLT, Int.reduceToNat, Int.reduceLE, Int.reduceEq, Int.reduceLT, Nat.reduceEqDiff, Nat.reduceAdd, zDk, pd_eql, pd_neq, pd_eql0, pd_neq0, w2]
      refine ⟨[0, 6, 29], ?_⟩
      simp only [zZ, reduceIte, Nat.reduceLT, Int.reduceToNat, Int.reduceLE, Int.reduceEq, Int.reduceLT, Nat.reduceEqDiff, Nat.reduceAdd, keepF]
      exact ⟨M4, Thin.refl _, 8 - (i + 1), ⟨i + 1, rfl, by omega, rfl, ho4, by omega⟩, by omega⟩
    · simp only [zZ, reduceIte, Nat.reduceLT, Int.reduceToNat, Int.reduceLE, Int.reduceEq, Int.reduceLT, Nat.reduceEqDiff, Nat.reduceAdd, zDk, pd_eql, pd_neq, pd_eql0, pd_neq0]
      refine CW_seq (CW_seq (CW_region ?_))
      simp only [zZ, reduceIte, Nat.reduceLT, Int.reduceToNat, Int.reduceLE, Int.reduceEq, Int.reduceLT, Nat.reduceEqDiff, Nat.reduceAdd, zDk, pd_eql, pd_neq, pd_eql0, pd_neq0]
      obtain ⟨M6, hM6⟩ : ∃ M6, M6 = M' := ⟨_, rfl⟩
      rw [← hM6] at ho hss ⊢
      clear hd' hg' hM6 M'
      refine CW_block (MW_loop (fun j f M' => ∃ i : Nat, j = 4 - i ∧ i ≤ 4 ∧ f = [(0, .pointer (some ⟨p, 0, none⟩)), (6, .pointer (some ⟨dep, 0, none⟩)), (60, .int .i64 (i : Nat))] ∧ Only [] M2 M' ∧ M2.size ≤ M'.size) 4 ?_ ?_)
      · refine ⟨[0, 6, 60], ?_⟩
        simp only [zZ, reduceIte, Nat.reduceLT, Int.reduceToNat, Int.reduceLE, Int.reduceEq, Int.reduceLT, Nat.reduceEqDiff, Nat.reduceAdd, keepF]
        exact ⟨M6, Thin.refl _, 0, rfl, by omega, rfl, ho, hss⟩
      · clear ho hss
        rintro j f M' ⟨i, rfl, hi8', rfl, ho, hss⟩
        obtain ⟨hd', hg'⟩ := hloop M' ho
        refine CW_seq (CW_region ?_)
        simp only [zZ, reduceIte, Nat.reduceLT, Int.reduceToNat, Int.reduceLE, Int.reduceEq, Int.reduceLT, Nat.reduceEqDiff, Nat.reduceAdd, zDk, pd_eql, pd_neq, pd_eql0, pd_neq0]
        refine CW_seq (CW_cond (decide ((i : Int) < 4)) (by rfl) (fun h => CW_skip ?_) (fun h => CW_exit ?_))
        · have h := of_decide_eq_true h
          have hi : i < 4 := by omega
          have w1 : IntKind.i64.wrap (1 + (i : Int)) = ((1 + i : Nat) : Int) := by rw [wri (by omega) (by omega)]; omega
          have w2 : IntKind.i64.wrap ((i : Int) + 1) = ((i + 1 : Nat) : Int) := by rw [wri (by omega) (by omega)]; omega
          have htr := hb.trim (i := 1 + i) (by omega) (by omega)
          have hrd : d.read ((1 + i : Nat) : Int) = (d.sector (1 + i), 0) := by unfold Dsk.read; rw [if_pos (hb.may (by omega))]; rfl
          simp only [zZ, reduceIte, Nat.reduceLT, Int.reduceToNat, Int.reduceLE, Int.reduceEq, Int.reduceLT, Nat.reduceEqDiff, Nat.reduceAdd]
          refine CW_seq (CW_block (CW_seq (CW_region ?_)))
          simp only [zZ, reduceIte, Nat.reduceLT, Int.reduceToNat, Int.reduceLE, Int.reduceEq, Int.reduceLT, Nat.reduceEqDiff, Nat.reduceAdd, zDk, pd_eql, pd_neq, pd_eql0, pd_neq0]
          refine CW_seq (CW_region ?_)
          simp only [zZ, reduceIte, Nat.reduceLT, Int.reduceToNat, Int.reduceLE, Int.reduceEq, Int.reduceLT, Nat.reduceEqDiff, Nat.reduceAdd, zDk, pd_eql, pd_neq, pd_eql0, pd_neq0, w1]
          refine ⟨by kernel_rfl, _, read_spec M' p q g d hd' ((1 + i : Nat) : Int), ?_⟩
          rintro _ M9 ⟨rfl, e9⟩; replace e9 := e9.symm; subst e9
          rw [hrd]
          simp only [zZ, reduceIte, Nat.reduceLT, Int.reduceToNat, Int.reduceLE, Int.reduceEq, Int.reduceLT, Nat.reduceEqDiff, Nat.reduceAdd, zDk, pd_eql, pd_neq, pd_eql0, pd_neq0]
          refine CW_seq (CW_seq (CW_region ?_))
          simp only [zZ, reduceIte, Nat.reduceLT, Int.reduceToNat, Int.reduceLE, Int.reduceEq, Int.reduceLT, Nat.reduceEqDiff, Nat.reduceAdd, zDk, pd_eql, pd_neq, pd_eql0, pd_neq0]
          refine CW_cond false (by rfl) (fun h => by cases h) (fun _ => CW_skip ?_)
          simp only [zZ, reduceIte, Nat.reduceLT, Int.reduceToNat, Int.reduceLE, Int.reduceEq, Int.reduceLT, Nat.reduceEqDiff, Nat.reduceAdd, zDk, pd_eql, pd_neq, pd_eql0, pd_neq0]
          refine CW_seq (CW_region ?_)
          simp only [zZ, reduceIte, Nat.reduceLT, Int.reduceToNat, Int.reduceLE, Int.reduceEq, Int.reduceLT, Nat.reduceEqDiff, Nat.reduceAdd, zDk, pd_eql, pd_neq, pd_eql0, pd_neq0]
          refine ⟨by kernel_rfl, _, jtake_blank M' _ htr.1 htr.2, ?_⟩
          rintro _ M3 ⟨rfl, ho3, hs3⟩
          have hal : nAlloc Tryz.prog 85 = some (.cells false (aStride Tryz.prog 85) zeroRec) := al_Rec
          generalize aStride Tryz.prog 85 = s2 at hal
          have hput : putIn 13 (M3.push (.cells false s2 zeroRec)) M3.size 0 zeroRec ((M3.push (.cells false s2 zeroRec)).get M3.size) = some (M3.push (.cells false s2 zeroRec)) := by
            rw [Mem.get_push_new]
            simp only [putIn]
            rw [if_pos ⟨rfl, by decide, rfl⟩]
            congr 1
            exact push_set _ _ _
          simp only [zZ, reduceIte, Nat.reduceLT, Int.reduceToNat, Int.reduceLE, Int.reduceEq, Int.reduceLT, Nat.reduceEqDiff, Nat.reduceAdd, zDk, pd_eql, pd_neq, pd_eql0, pd_neq0, hal, agg_cells, hput]
          obtain ⟨M4, hM4⟩ : ∃ M4, M4 = M3.push (.cells false s2 zeroRec) := ⟨_, rfl⟩
          have ho4 : Only [] M2 M4 := ho.trans (ho3.trans (by rw [hM4]; exact Only.push _ _ _))
          have hs4 : M4.size = M3.size + 1 := by rw [hM4, Mem.size_push]
          rw [← hM4]
          have q1 : ((8 : Int) == 0) = false := rfl
          have q2 : ((8 : Int) != 8) = false := rfl
          refine CW_seq (CW_region ?_)
          simp only [zZ, reduceIte, Nat.reduceLT, Int.reduceToNat, Int.reduceLE, Int.reduceEq, Int.reduceLT, Nat.reduceEqDiff, Nat.reduceAdd, zDk, pd_eql, pd_neq, pd_eql0, pd_neq0, q1]
          refine CW_cond false (by rfl) (fun h => by cases h) (fun _ => CW_seq (CW_region ?_))
          simp only [zZ, reduceIte, Nat.reduceLT, Int.reduceToNat, Int.reduceLE, Int.reduceEq, Int.reduceLT, Nat.reduceEqDiff, Nat.reduceAdd, zDk, pd_eql, pd_neq, pd_eql0, pd_neq0, q2]
          refine CW_cond false (by rfl) (fun h => by cases h) (fun _ => CW_skip ?_)
          simp only [zZ, reduceIte, Nat.reduceLT, Int.reduceToNat, Int.reduceLE, Int.reduceEq, Int.reduceLT, Nat.reduceEqDiff, Nat.reduceAdd, zDk, pd_eql, pd_neq, pd_eql0, pd_neq0]
          refine CW_region ?_
          simp only [zZ, reduceIte, Nat.reduceLT, Int.reduceToNat, Int.reduceLE, Int.reduceEq, Int.reduceLT, Nat.reduceEqDiff, Nat.reduceAdd, zDk, pd_eql, pd_neq, pd_eql0, pd_neq0, w2]
          refine ⟨[0, 6, 60], ?_⟩
          simp only [zZ, reduceIte, Nat.reduceLT, Int.reduceToNat, Int.reduceLE, Int.reduceEq, Int.reduceLT, Nat.reduceEqDiff, Nat.reduceAdd, keepF]
          exact ⟨M4, Thin.refl _, 4 - (i + 1), ⟨i + 1, rfl, by omega, rfl, ho4, by omega⟩, by omega⟩
        · simp only [zZ, reduceIte, Nat.reduceLT, Int.reduceToNat, Int.reduceLE, Int.reduceEq, Int.reduceLT, Nat.reduceEqDiff, Nat.reduceAdd, zDk, pd_eql, pd_neq, pd_eql0, pd_neq0]
          refine CW_seq (CW_region ?_)
          simp only [zZ, reduceIte, Nat.reduceLT, Int.reduceToNat, Int.reduceLE, Int.reduceEq, Int.reduceLT, Nat.reduceEqDiff, Nat.reduceAdd, zDk, pd_eql, pd_neq, pd_eql0, pd_neq0]
          refine ⟨by kernel_rfl, _, next_spec M' p q g d hd' 0, ?_⟩
          rintro _ M7 ⟨rfl, hd7, ho7, hs7⟩
          rw [hnx]
          simp only [zZ, reduceIte, Nat.reduceLT, Int.reduceToNat, Int.reduceLE, Int.reduceEq, Int.reduceLT, Nat.reduceEqDiff, Nat.reduceAdd, zDk, pd_eql, pd_neq, pd_eql0, pd_neq0]
          refine CW_seq (CW_seq (CW_region ?_))
          simp only [zZ, reduceIte, Nat.reduceLT, Int.reduceToNat, Int.reduceLE, Int.reduceEq, Int.reduceLT, Nat.reduceEqDiff, Nat.reduceAdd, zDk, pd_eql, pd_neq, pd_eql0, pd_neq0]
          refine CW_cond false (by rfl) (fun h => by cases h) (fun _ => CW_skip ?_)
          simp only [zZ, reduceIte, Nat.reduceLT, Int.reduceToNat, Int.reduceLE, Int.reduceEq, Int.reduceLT, Nat.reduceEqDiff, Nat.reduceAdd, zDk, pd_eql, pd_neq, pd_eql0, pd_neq0]
          have hg7 : M7.get dep = some (.cells false s1 (depC p key 0)) := ho7 _ _ (by simp; omega) hg'
          have hg7' := hg7
          unfold depC at hg7
          refine CW_seq (CW_region ?_)
          simp only [zZ, reduceIte, Nat.reduceLT, Int.reduceToNat, Int.reduceLE, Int.reduceEq, Int.reduceLT, Nat.reduceEqDiff, Nat.reduceAdd, zDk, pd_eql, pd_neq, pd_eql0, pd_neq0, hg7]
          refine CW_seq (CW_region ?_)
          simp only [zZ, reduceIte, Nat.reduceLT, Int.reduceToNat, Int.reduceLE, Int.reduceEq, Int.reduceLT, Nat.reduceEqDiff, Nat.reduceAdd, zDk, pd_eql, pd_neq, pd_eql0, pd_neq0]
          refine CW_ret ?_
          simp only [zZ, reduceIte, Nat.reduceLT, Int.reduceToNat, Int.reduceLE, Int.reduceEq, Int.reduceLT, Nat.reduceEqDiff, Nat.reduceAdd, zDk, pd_eql, pd_neq, pd_eql0, pd_neq0, mEnd, sAnswer, sAnswer.sRes]
          refine ⟨_, Thin.refl _, dep, rfl, ⟨s1, Mem.get_set_same hg7' _⟩, by omega, hd7.only (Only.set (l := [dep]) (by simp) _) (by simp; omega) (by simp; omega) (by simp; omega), ?_, by rw [Mem.size_set]; omega⟩
          intro b x hbn hbx
          have := get_live hbx
          rw [Mem.get_set_ne (by omega)]
          exact ho7 b x hbn (ho b x (by simp) (ho2 b x (by simp) hbx))
end Go.Proofs.YtmnebimijlnlkaaGreatDoor
namespace Go.Proofs.YtmnebimijlnlkaaGreatDoor.Abs
open Go Go.RowKit
theorem bld_size : (Tryz.prog.info? 51).map (·.size) = some 2 := by kernel_rfl
theorem bld_lies : liesAt Tryz.prog Tryz.prog.depth 51 (2 / Tryz.prog.cellsOf 51) 0 51 1 = true := by kernel_rfl
set_option maxHeartbeats 1000000 in
set_option maxRecDepth 100000 in
theorem copy_used (b : Nat) (w : World) (h0 : w.cell? ⟨b, 0, none⟩ = some (.pointer (some ⟨b, 0, none⟩))) :
    Calls Tryz.prog 44 #[.pointer (some ⟨b, 0, none⟩)] w fun e w' => e = .returned (.tuple #[]) ∧ w' = w := by
  obtain ⟨j, hj, _⟩ := Option.map_eq_some_iff.1 bld_size
  go_enter Tryz.func44, Tryz.ntmps44
  go_wp2
  rw [Lib.run_neq_ptr_same w _ Tryz.underlying48 hj]
  go_wp2
  go_end0
  exact ⟨rfl, rfl⟩
set_option maxHeartbeats 1000000 in
set_option maxRecDepth 100000 in
theorem copy_fresh (b : Nat) (w : World) (h0 : w.cell? ⟨b, 0, none⟩ = some (.pointer none)) (hsh : w.shape? b = some (51, 2)) (hfz : w.frozen? ⟨b, 0, none⟩ = false) :
    Calls Tryz.prog 44 #[.pointer (some ⟨b, 0, none⟩)] w fun e w' => e = .returned (.tuple #[]) ∧ w' = w.setCell ⟨b, 0, none⟩ (.pointer (some ⟨b, 0, none⟩)) := by
  obtain ⟨j, hj, hjs⟩ := Option.map_eq_some_iff.1 bld_size
  go_enter Tryz.func44, Tryz.ntmps44
  go_wp2
  rw [Lib.run_to_unsafe w ⟨b, 0, none⟩ Tryz.underlying48 Tryz.underlying165 hj (by rw [hjs]; decide) hsh (Nat.zero_lt_succ 1)]
  simp only [Result.andThen]
  rw [Oper.upon_value]
  go_wp2
  rw [run_callFunc_extern Tryz.func87 (by kernel_rfl) (by kernel_rfl) (by kernel_rfl) (e := Extern.AbiNoEscape.same) (by kernel_rfl)]
  rw [Lib.run_noEscape]
  simp only [Result.andThen]
  rw [Oper.upon_value]
  go_wp2
  rw [Lib.run_from_unsafe w ⟨b, 0, none⟩ Tryz.underlying165 Tryz.underlying48 hj hsh bld_lies]
  simp only [Result.andThen]
  rw [Oper.upon_value]
  go_wp2
  go_end0
  exact ⟨rfl, rfl⟩
def BufAt (K p : Nat) (M : Mem) (V : Value) (l : List UInt8) : Prop :=
  (l = [] ∧ V = .slice none 0 0) ∨ (l ≠ [] ∧ ∃ g rest, K ≤ g ∧ g ≠ p ∧ V = .slice (some ⟨g, 0, none⟩) l.length (l.length + rest.length) ∧ l.length + rest.length ≤ maxLen ∧ M.get g = some (.cells false bufS (bytesV l ++ rest)))
theorem bytesV_cells (s : ByteArray) : byteCells' s = bytesV s.data.toList := rfl
theorem bytesV_flat (l : List UInt8) : ∀ v ∈ bytesV l, flat 3 v = true := fun v hv => by
  unfold bytesV at hv
  rw [List.mem_map] at hv
  obtain ⟨x, _, rfl⟩ := hv
  rfl
theorem flats_self {n : Nat → Prop} {ι : Nat → Loc} {cs : List Value} (h : ∀ v ∈ cs, flat 3 v = true) : VRels n ι cs cs := ⟨rfl, fun i x y hx hy => by
  rw [hx] at hy; cases hy
  exact flat_rel 3 _ (h _ (List.mem_of_getElem? hx))⟩
theorem zeroB_list (n : Nat) : (Builtin.zeroCells (Value.int .u8 0).cells n).toList = List.replicate n (.int .u8 0) := by
  have e : (Value.int .u8 0).cells = #[.int .u8 0] := rfl
  rw [e]
  unfold Builtin.zeroCells
  apply List.ext_getElem?
  intro i
  simp only [Array.toList_map, Array.toList_range, List.getElem?_map, List.getElem?_replicate]
  by_cases hi : i < n
  · simp [hi, Nat.mod_one]
  · simp [hi]
theorem setL_tail (a r v : List Value) (h : v.length ≤ r.length) : setL (a ++ r) a.length v = a ++ v ++ r.drop v.length := by
  apply List.ext_getElem?
  intro i
  rw [setL_get _ _ _ _ (by rw [List.length_append]; omega)]
  by_cases h1 : i < a.length
  · rw [if_neg (by omega), List.append_assoc, List.getElem?_append_left h1, List.getElem?_append_left h1]
  · by_cases h2 : i < a.length + v.length
    · rw [if_pos (by omega), List.append_assoc, List.getElem?_append_right (by omega), List.getElem?_append_left (by omega)]
    · rw [if_neg (by omega), List.append_assoc, List.getElem?_append_right (by omega), List.getElem?_append_right (by omega), List.getElem?_append_right (by omega), List.getElem?_drop]
      congr 1; omega
section
variable {P : Program} {ι : Nat → Loc} {M : Mem} {w : World} {t tx ty e : TypeId} {i : TypeInfo}
theorem bufNew (h : Rel ι M w) (hbt : bufT = some e) {K p cap : Nat} {l : List UInt8} {C : Array Value} (hK : K ≤ M.size) (hp : p < M.size) (hl0 : l ≠ []) (hcap : l.length ≤ cap) (hmx : cap ≤ maxLen)
    (hC : C.toList = bytesV l ++ List.replicate (cap - l.length) (.int .u8 0)) :
    ∃ κ M' V2, VRel M'.Has κ V2 (.slice (some ⟨w.heap.size, 0, none⟩) l.length cap) ∧ Rel κ M' (w.drew.alloc (.cells C e)) ∧ Step ι M w κ M' (w.drew.alloc (.cells C e)) ∧ BufAt K p M' V2 l ∧
      (∀ b x, (b < K ∨ b = p) → M.get b = some x → M'.get b = some x) ∧ (∀ b st cs, M.get b = some (.cells true st cs) → M'.get b = some (.cells true st cs)) ∧ M.size ≤ M'.size := by
  have hfl : ∀ v ∈ C.toList, flat 3 v = true := fun v hv => by
    rw [hC, List.mem_append] at hv
    rcases hv with hv | hv
    · exact bytesV_flat _ v hv
    · rw [(List.mem_replicate.1 hv).2]; rfl
  have hone : oneAll C.toList = true := by
    simp only [oneAll, List.all_eq_true]
    intro v hv
    rw [hC, List.mem_append] at hv
    rcases hv with hv | hv
    · unfold bytesV at hv
      rw [List.mem_map] at hv
      obtain ⟨x, _, rfl⟩ := hv
      rfl
    · rw [(List.mem_replicate.1 hv).2]; rfl
  have hCs : C.size = cap := by
    have := congrArg List.length hC
    rw [Array.length_toList, List.length_append, List.length_replicate] at this
    have hb : (bytesV l).length = l.length := by simp [bytesV]
    omega
  obtain ⟨hR, hS⟩ := h.newCells (cs := C.toList) (rest := []) (OneMore.drewAlloc w (.cells C e)) bufS (flats_self hfl).whole (by simp) hone (.inl rfl)
    ⟨fun h0 => absurd h0 (by decide), fun _ _ _ => ⟨hbt, rfl, by rw [hCs]; unfold maxLen at hmx; unfold bufS; omega⟩⟩
  refine ⟨_, _, .slice (some ⟨M.size, 0, none⟩) l.length cap, newSlice _ ⟨w.heap.size, 0, _, bufS⟩ _ _ _ hcap (.inl rfl), hR, hS, .inr ⟨hl0, M.size, List.replicate (cap - l.length) (.int .u8 0), hK, by omega, ?_, ?_, ?_⟩, ?_, ?_, ?_⟩
  · rw [List.length_replicate]; congr 1; omega
  · rw [List.length_replicate]; omega
  · rw [Mem.get_push_new, hC]
  · intro b x _ hb
    rw [Mem.get_push_old (Mem.get_lt hb)]; exact hb
  · intro b st cs hb
    rw [Mem.get_push_old (Mem.get_lt hb)]; exact hb
  · rw [Mem.size_push]; omega
theorem bufApp_run (h : Rel ι M w) (ht : P.underlying t = some (.slice e)) (hx : P.underlying tx = some .string) (hbt : bufT = some e) (hi : P.info? e = some i) (hz : i.zero = some (.int .u8 0)) (hs : i.size = 1) (hb : i.bytes = 1)
    {K p : Nat} {V V' : Value} {l : List UInt8} (hK : K ≤ M.size) (hp : p < M.size) (hV : BufAt K p M V l) (hVV : VRel M.Has ι V V') (s : ByteArray) (hlen : l.length + s.size ≤ 140737488355328) :
    ∃ v' w' κ M' V2, (Builtin.append_ #[t, tx] ty #[V', .string s]).run P w = .ok v' w' ∧ VRel M'.Has κ V2 v' ∧ Rel κ M' w' ∧ Step ι M w κ M' w' ∧ BufAt K p M' V2 (l ++ s.data.toList) ∧
      (∀ b x, (b < K ∨ b = p) → M.get b = some x → M'.get b = some x) ∧ (∀ b st cs, M.get b = some (.cells true st cs) → M'.get b = some (.cells true st cs)) ∧ M.size ≤ M'.size := by
  have hsrc : Src P i.size tx (.string s) s.size (byteCells' s) w := by rw [hs]; exact Src.ofString w hx s
  have hsl : (byteCells' s).length = s.size := byteCells'_length s
  have hz1 : (Value.int .u8 0).cells.toList.length = i.size := by rw [hs]; rfl
  have hsd : s.data.toList.length = s.size := by simp
  have hbl : (bytesV l).length = l.length := by simp [bytesV]
  by_cases hn : s.size = 0
  · -- nothing
    have hs0 : s.data.toList = [] := List.eq_nil_of_length_eq_zero (by omega)
    refine ⟨V', w, ι, M, V, ?_, hVV, h, Step.refl _ _ _, by rw [hs0, List.append_nil]; exact hV, fun _ _ _ h => h, fun _ _ _ h => h, Nat.le_refl _⟩
    have hus : byteCells' s = [] := List.eq_nil_of_length_eq_zero (by omega)
    rw [hus, hn] at hsrc
    rcases hV with ⟨_, rfl⟩ | ⟨_, g, rest, _, _, rfl, _⟩
    · cases hVV
      rcases hsrc.kind with ⟨e', hk⟩ | hk <;> simp [Builtin.append_, run_underlying ht, run_underlying hk, run_sizeOf' hi, hsrc.len, hsrc.cells]
    · have hsame : ∀ (a : Addr) (k cap' : Nat), k ≤ cap' → (Builtin.append_ #[t, tx] ty #[.slice (some a) k cap', .string s]).run P w = .ok (.slice (some a) k cap') w := by
        intro a k cap' hle
        rcases hsrc.kind with ⟨e', hk⟩ | hk <;> simp [Builtin.append_, run_underlying ht, run_underlying hk, run_sizeOf' hi, hsrc.len, hsrc.cells, hle, storeCells]
      generalize l.length = k at hVV
      generalize k + rest.length = c at hVV
      cases hVV with
      | slice _ _ _ _ cap' hlt hl hc => exact hsame _ _ _ (by rcases hc with hc | hc <;> omega)
      | empty _ _ o' hlt => exact hsame _ _ _ (Nat.le_refl _)
  have hne : l ++ s.data.toList ≠ [] := by
    intro h0
    have := congrArg List.length h0
    rw [List.length_append, hsd, List.length_nil] at this
    omega
  have hall : (l ++ s.data.toList).length = l.length + s.size := by rw [List.length_append, hsd]
  have hbv : bytesV (l ++ s.data.toList) = bytesV l ++ byteCells' s := by rw [bytesV_cells]; simp [bytesV]
  rcases hV with ⟨rfl, rfl⟩ | ⟨hl0, g, rest, hKg, hgp, rfl, hcm, hg⟩
  · cases hVV
    have hg := run_append_grow_src (P := P) w t tx ty e i _ ht hi hz none 0 0 [] (run_firstCells_none w.drew i.size 0 0 0) (.string s) s.size (byteCells' s) hsrc (by omega) (by omega) (growslice_fits (by omega) (by rw [hb]; simp only [List.length_nil] at hlen; omega))
    rw [Nat.zero_add] at hg
    have hmx := grownCap_le_maxLen w s.size 0 e (by simp only [maxLen]; omega)
    have hge := grownCap_ge w s.size 0 e
    generalize grownCap w s.size 0 e = cap at hg hmx hge
    obtain ⟨κ, M', V2, g1, g2⟩ := bufNew h hbt (K := K) (p := p) (cap := cap) (l := s.data.toList) (C := ([] ++ byteCells' s).toArray ++ Builtin.zeroCells (Value.int .u8 0).cells (cap - s.size)) hK hp (by simpa using hne) (by omega) hmx
      (by rw [Array.toList_append, zeroB_list, hsd]; rfl)
    rw [hsd] at g1
    exact ⟨_, _, κ, M', V2, hg, g1, g2⟩
  · obtain ⟨C, eC, fz, hC, hsz, hst, hlen', hv, hfz⟩ := h.at' g false bufS _ hg
    have hcl : (bytesV l ++ rest).length = l.length + rest.length := by rw [List.length_append, hbl]
    have hl1 : 0 < l.length := List.length_pos_iff.2 hl0
    obtain ⟨t1, t2, t3⟩ := hst.tag.2 rfl (by omega) (by rw [hcl]; unfold maxLen at hcm; unfold bufS; omega)
    have hol := (VRels.toL hlen' fun j v hi => (hv j v hi).2)
    have hstr := hst.eq
    generalize hkk : l.length = k at *
    generalize hcc : k + rest.length = c at *
    cases hVV with
    | empty _ _ o' hlt => omega
    | slice _ _ _ _ cap' hlt hl hc =>
      have hcap : cap' = c := by
        rcases hc with hc | ⟨hc1, hc2, _⟩
        · exact hc
        · exfalso
          rw [hstr] at hc2
          have : 1 * bufS ≤ cap' * bufS := Nat.mul_le_mul_right _ (by omega)
          omega
      subst hcap
      by_cases hroom : k + s.size ≤ cap'
      · have hw := h.write hg k (byteCells' s) (byteCells' s) (by rw [hcl, hsl]; omega) (oneAll_spec (byteCells'_one s)) (byteCells'_rel s _)
        have hset : setL (bytesV l ++ rest) k (byteCells' s) = bytesV (l ++ s.data.toList) ++ rest.drop s.size := by
          have := setL_tail (bytesV l) rest (byteCells' s) (by rw [hsl]; omega)
          rw [hbl] at this
          rw [this, hbv, hsl]
        rw [hset] at hw
        have hrun := run_append_room_src (P := P) w t tx ty e i ht hi (ι g).blk ((ι g).base + 0) k cap' (.string s) s.size (byteCells' s) hsrc hroom
          (fun j hj => by rw [hs, Nat.mul_one, cell_of_block hC]; simp; omega) (fun j hj => by rw [hs, Nat.mul_one]; exact frozen_of_block hC (hfz rfl _ (by omega)))
        rw [hs, Nat.mul_one, Nat.add_zero] at hrun
        refine ⟨_, _, ι, _, .slice (some ⟨g, 0, none⟩) (k + s.size) cap', hrun, .slice g 0 (k + s.size) cap' cap' (Mem.has_set _ hlt) hroom (.inl rfl), hw.1, hw.2, .inr ⟨hne, g, rest.drop s.size, hKg, hgp, ?_, ?_, Mem.get_set_same hg _⟩, ?_, ?_, ?_⟩
        · rw [hall, List.length_drop]; congr 1; omega
        · rw [hall, List.length_drop]; omega
        · intro b x hbk hbx
          rw [Mem.get_set_ne (by rintro rfl; rcases hbk with hbk | hbk <;> omega)]; exact hbx
        · intro b st cs hbx
          rw [Mem.get_set_ne (by rintro rfl; rw [hg] at hbx; cases hbx)]; exact hbx
        · rw [Mem.size_set]; exact Nat.le_refl _
      · have hcell : ∀ j u, (bytesV l)[j]? = some u → w.cell? ((⟨(ι g).blk, (ι g).base + 0, none⟩ : Addr).add j) = some u := by
          intro j u hj
          have hjl := (List.getElem?_eq_some_iff.1 hj).1
          obtain ⟨_, u', h8, h9⟩ := hv j u (by rw [List.getElem?_append_left hjl]; exact hj)
          have := flat_eq 3 _ _ (bytesV_flat l u (List.mem_of_getElem? hj)) h9
          subst this
          rw [Addr_add, cell_of_block hC, Nat.add_zero]
          exact h8
        have hg2 := run_append_grow_src (P := P) w t tx ty e i _ ht hi hz (some ⟨(ι g).blk, (ι g).base + 0, none⟩) k cap' (bytesV l) (run_firstCells_some w.drew i.size k _ k cap' (bytesV l) (by rw [hs, hbl, Nat.mul_one]) hcell) (.string s) s.size (byteCells' s) hsrc (by omega) (by omega) (growslice_fits (by omega) (by rw [hb]; omega))
        have hmx := grownCap_le_maxLen w (k + s.size) cap' e (by simp only [maxLen]; omega)
        have hge := grownCap_ge w (k + s.size) cap' e
        generalize grownCap w (k + s.size) cap' e = cap at hg2 hmx hge
        obtain ⟨κ, M', V2, g1, g2⟩ := bufNew h hbt (K := K) (p := p) (cap := cap) (l := l ++ s.data.toList) (C := (bytesV l ++ byteCells' s).toArray ++ Builtin.zeroCells (Value.int .u8 0).cells (cap - (k + s.size))) hK hp hne (by omega) hmx
          (by rw [Array.toList_append, zeroB_list, hall, hbv])
        rw [hall] at g1
        exact ⟨_, _, κ, M', V2, hg2, g1, g2⟩
end
def BAt (K : Nat) (M : Mem) (p : Nat) (l : List UInt8) : Prop :=
  K ≤ p ∧ ∃ a V, M.get p = some (.cells false 0 [a, V]) ∧ (a = .pointer none ∨ a = .pointer (some ⟨p, 0, none⟩)) ∧ BufAt K p M V l
theorem inf_byte : Tryz.prog.info? 5 = some Tryz.t5 := by kernel_rfl
theorem wpList_append_run {P : Program} {w : World} {ops : Array Oper} {rest : List Oper} {o : Oper} {a : Act} {Q : Exit → Act → World → Prop} (hgd : o.guard = none) (d s : Operand) (dT sT : TypeId)
    (ho : o.op = .call { callee := .builtin .append, args := #[d, s], argTypes := #[dT, sT] }) (x y v : Value) (w' : World) (hd : a.eval d = x) (hs : a.eval s = y)
    (hr : (Builtin.append_ #[dT, sT] o.type #[x, y]).run P w = .ok v w') (h : wpList P ops Q rest (a.put o.dst v) w') : wpList P ops Q (o :: rest) a w := by
  refine wpList_plain hgd fun K hK => ?_
  unfold Oper.wp execOp
  simp only [ho, resolve, invoke, builtin, Sem.run_bind, Sem.run_pure, Result.andThen_ok, List.map_toArray, List.map_cons, List.map_nil, hd, hs, hr]
  exact hK _ _ h
set_option maxHeartbeats 1000000 in
set_option maxRecDepth 100000 in
theorem ws_walk (P0 : Nat) (s : ByteArray) (w w1 w2 : World) (V' v' old : Value) (hsl : ∃ a n c, v' = .slice a n c)
    (hcc : Calls Tryz.prog 44 #[.pointer (some ⟨P0, 0, none⟩)] w (fun e w' => e = .returned (.tuple #[]) ∧ w' = w1))
    (c1 : w1.cell? ⟨P0, 1, none⟩ = some V') (a1 : (Builtin.append_ #[49, 9] 49 #[V', .string s]).run Tryz.prog w1 = .ok v' w2)
    (d1 : w2.cell? ⟨P0, 1, none⟩ = some old) (f1 : w2.frozen? ⟨P0, 1, none⟩ = false) :
    Calls Tryz.prog 16 #[.pointer (some ⟨P0, 0, none⟩), .string s] w fun e w' => e = .returned (.tuple #[.int .i64 s.size, .nilIface]) ∧ w' = w2.setCell ⟨P0, 1, none⟩ v' := by
  obtain ⟨va, vn, vc, rfl⟩ := hsl
  go_enter Tryz.func16, Tryz.ntmps16
  go_wp2_with fail
  refine hcc.mono ?_
  rintro e w' ⟨rfl, rfl⟩
  go_wp2_with (at_builtin; refine wpList_append_run rfl (.tmp 12) (.tmp 13) 49 9 rfl _ _ _ _ rfl rfl a1 ?_)
  clear a1 hcc c1
  go_wp2
  go_ret2
  exact ⟨rfl, rfl⟩
set_option maxHeartbeats 2000000 in
set_option maxRecDepth 100000 in
theorem ws_spec (K p : Nat) (M : Mem) (l : List UInt8) (s : ByteArray) (hB : BAt K M p l) (hlen : l.length + s.size ≤ 140737488355328) :
    Spec Tryz.prog 16 [.pointer (some ⟨p, 0, none⟩), .string s] M fun u M' => u = .tuple #[.int .i64 s.size, .nilIface] ∧ BAt K M' p (l ++ s.data.toList) ∧ Keeps K M M' ∧ M.size ≤ M'.size := by
  intro ι w ys hy hr
  obtain ⟨y0, y1, rfl, h0, h1⟩ := vrels_two hy
  cases h1
  obtain ⟨hKp, a, V, hg, ha, hV⟩ := hB
  obtain ⟨C, e, fz, hC, hsz, hst, hlen', hv, hfz⟩ := hr.at' p false 0 _ hg
  have hpl := Mem.get_lt hg
  obtain ⟨t1, t2, t3⟩ := hst.tag.1 rfl (by simp)
  have te : e = 51 := by
    have : tagT = some 51 := rfl
    rw [this] at t1; cases t1; rfl
  subst te
  obtain ⟨P0, hP0⟩ : ∃ P0, P0 = (ι p).blk := ⟨_, rfl⟩
  have hy0 : y0 = .pointer (some ⟨P0, 0, none⟩) := by
    cases h0
    rw [t2, hP0]
  subst hy0
  obtain ⟨o1, a', b1, b2⟩ := hv 0 a rfl
  obtain ⟨o2, V', b3, b4⟩ := hv 1 V rfl
  rw [t2, Nat.zero_add] at b1 b3
  have C2 : C.size = 2 := t3
  rw [← hP0] at hC
  have c0 : w.cell? ⟨P0, 0, none⟩ = some a' := by rw [cell_of_block hC]; exact b1
  have c1 : w.cell? ⟨P0, 1, none⟩ = some V' := by rw [cell_of_block hC]; exact b3
  -- behind copyCheck
  obtain ⟨w1, hcc, hM1⟩ : ∃ w1, Calls Tryz.prog 44 #[.pointer (some ⟨P0, 0, none⟩)] w (fun e w' => e = .returned (.tuple #[]) ∧ w' = w1) ∧
      ∃ M1, Rel ι M1 w1 ∧ Step ι M w ι M1 w1 ∧ M1.get p = some (.cells false 0 [.pointer (some ⟨p, 0, none⟩), V]) ∧ (∀ b x, b ≠ p → M.get b = some x → M1.get b = some x) ∧ M1.size = M.size ∧ w1.cell? ⟨P0, 1, none⟩ = some V' := by
    rcases ha with rfl | rfl
    · cases b2
      have hsh : w.shape? P0 = some (51, 2) := by simp [World.shape?, hC, C2]
      have hf0 : w.frozen? ⟨P0, 0, none⟩ = false := frozen_of_block hC (hfz rfl 0 (by omega))
      have hself : VRel M.Has ι (.pointer (some ⟨p, 0, none⟩)) (.pointer (some ⟨P0, 0, none⟩)) := h0
      obtain ⟨k1, k2⟩ := hr.write hg 0 [.pointer (some ⟨p, 0, none⟩)] [.pointer (some ⟨P0, 0, none⟩)] (by simp) (by simp [Value.oneCell']) (.cons hself .nil)
      rw [t2, ← hP0] at k1 k2
      refine ⟨_, copy_fresh P0 w c0 hsh hf0, _, k1, k2, Mem.get_set_same hg _, fun b x hb hx => by rw [Mem.get_set_ne (Ne.symm hb)]; exact hx, Mem.size_set .., ?_⟩
      have := heap_setCells [.pointer (some ⟨P0, 0, none⟩)] w P0 0 C _ fz hC
      rw [show w.setCells P0 0 [.pointer (some ⟨P0, 0, none⟩)] = w.setCell ⟨P0, 0, none⟩ (.pointer (some ⟨P0, 0, none⟩)) from rfl] at this
      rw [cell_of_block this]
      simp only [setA]
      rw [Array.getElem?_setIfInBounds_ne (by decide)]
      exact b3
    · cases b2
      rw [← hP0, t2] at c0
      exact ⟨w, copy_used P0 w c0, M, hr, Step.refl _ _ _, hg, fun b x _ hx => hx, rfl, c1⟩
  obtain ⟨M1, hr1, hs1, hg1, hk1, hz1, c1'⟩ := hM1
  have hV1 : BufAt K p M1 V l := by
    rcases hV with ⟨h1, h2⟩ | ⟨h1, g, rest, h2, h3, h4, h5, h6⟩
    · exact .inl ⟨h1, h2⟩
    · exact .inr ⟨h1, g, rest, h2, h3, h4, h5, hk1 g _ h3 h6⟩
  have hVV : VRel M1.Has ι V V' := b4.mono hs1.grows fun _ _ => rfl
  obtain ⟨v', w2, κ, M2, V2, a1, a2, a3, a4, a5, a6, a7, a8⟩ := bufApp_run (P := Tryz.prog) (t := 49) (tx := 9) (ty := 49) (i := Tryz.t5) hr1 Tryz.underlying49 Tryz.underlying9 rfl inf_byte rfl rfl rfl (K := K) (p := p) (by omega) (by omega) hV1 hVV s hlen
  have hg2 := a6 p _ (.inr rfl) hg1
  obtain ⟨D, e2, fz2, hD, hDs, hDt, hDl, hDv, hDf⟩ := a3.at' p false 0 _ hg2
  have eκ : κ p = ι p := a4.at_ p (Mem.get_has hg1)
  rw [eκ, ← hP0] at hD
  rw [eκ, t2, Nat.zero_add] at hDl
  have hD2 : 2 ≤ D.size := by simpa using hDl
  have f1 : w2.frozen? ⟨P0, 1, none⟩ = false := frozen_of_block hD (hDf rfl 1 (by omega))
  have d1 : w2.cell? ⟨P0, 1, none⟩ = some (D[1]'(by omega)) := by rw [cell_of_block hD]; exact Array.getElem?_eq_getElem _
  generalize D[1]'(by omega) = old at d1
  have hone : V2.oneCell' = true := by
    rcases a5 with ⟨_, rfl⟩ | ⟨_, g, rest, _, _, rfl, _⟩ <;> rfl
  obtain ⟨k1, k2⟩ := a3.write hg2 1 [V2] [v'] (by simp) (by simpa using hone) (.cons a2 .nil)
  rw [eκ, t2, ← hP0] at k1 k2
  have hvs : ∃ a n c, v' = .slice a n c := by
    rcases a5 with ⟨_, rfl⟩ | ⟨_, g, rest, _, _, rfl, _⟩
    · cases a2; exact ⟨_, _, _, rfl⟩
    · generalize (l ++ s.data.toList).length = k at a2
      generalize k + rest.length = c at a2
      cases a2 <;> exact ⟨_, _, _, rfl⟩
  refine Calls.mono (R := fun e w' => e = .returned (.tuple #[.int .i64 s.size, .nilIface]) ∧ w' = w2.setCell ⟨P0, 1, none⟩ v') ?_ ?_
  · exact ws_walk P0 s w w1 w2 V' v' old hvs hcc c1' a1 d1 f1
  · rintro e w' ⟨rfl, rfl⟩
    refine ⟨.tuple #[.int .i64 s.size, .nilIface], _, κ, _, ⟨rfl, ⟨hKp, _, V2, Mem.get_set_same hg2 _, .inr rfl, ?_⟩, ⟨fun b x hb hx => ?_, fun b st cs hx => ?_⟩, ?_⟩, rfl, flat_rel 3 _ rfl, k1, (hs1.trans a4).trans k2⟩
    · rcases a5 with ⟨h1, h2⟩ | ⟨h1, g, rest, h2, h3, h4, h5, h6⟩
      · exact .inl ⟨h1, h2⟩
      · exact .inr ⟨h1, g, rest, h2, h3, h4, h5, by rw [Mem.get_set_ne (Ne.symm h3)]; exact h6⟩
    · rw [Mem.get_set_ne (by omega)]
      exact a6 b x (.inl hb) (hk1 b x (by omega) hx)
    · have hbp : b ≠ p := by rintro rfl; rw [hg] at hx; cases hx
      rw [Mem.get_set_ne (Ne.symm hbp)]
      exact a7 b st cs (hk1 b _ hbp hx)
    · rw [Mem.size_set]; omega
set_option maxHeartbeats 2000000 in
set_option maxRecDepth 100000 in
theorem bstr_walk (P0 : Nat) (w : World) (V' : Value) (q : Option Addr) (n cap : Nat) (s : ByteArray) (w' : World) (hV : V' = .slice q n cap) (c1 : w.drew.cell? ⟨P0, 1, none⟩ = some (.slice q n cap)) (r : Option Addr)
    (hSD : (Builtin.unsafeSliceData_ #[49] 120 #[.slice q n cap]).run Tryz.prog w.drew = .ok (.pointer r) w.drew)
    (hUS : (Builtin.unsafeString_ #[120, 3] 9 #[.pointer r, .int .i64 n]).run Tryz.prog w.drew = .ok (.string s) w') :
    Calls Tryz.prog 19 #[.pointer (some ⟨P0, 0, none⟩)] w fun e w2 => e = .returned (.string s) ∧ w2 = w' := by
  go_enter Tryz.func19, Tryz.ntmps19
  go_wp2
  go_region
  all_goals (go_wp2; go_ret; exact ⟨rfl, rfl⟩)
theorem freeze_heap_ne (w : World) (a : Addr) (n k : Nat) (h : k ≠ a.block) : (w.freeze a n).heap[k]? = w.heap[k]? := by
  unfold World.freeze
  split
  · rfl
  · simp only [Array.getElem?_modify]
    rw [if_neg (Ne.symm h)]
theorem freeze_rest (w : World) (a : Addr) (n : Nat) : (w.freeze a n).heap.size = w.heap.size ∧ (w.freeze a n).os = w.os ∧ (w.freeze a n).tape = w.tape ∧ (w.freeze a n).output = w.output := by
  unfold World.freeze
  split
  · exact ⟨rfl, rfl, rfl, rfl⟩
  · exact ⟨by simp, rfl, rfl, rfl⟩
theorem Rel.frozen {ι : Nat → Loc} {M : Mem} {w : World} (h : Rel ι M w) {g s : Nat} {cs : List Value} (hg : M.get g = some (.cells false s cs)) (o n : Nat) :
    Rel ι (M.set g none) (w.drew.freeze ⟨(ι g).blk, o, none⟩ n) ∧ Step ι M w ι (M.set g none) (w.drew.freeze ⟨(ι g).blk, o, none⟩ n) := by
  obtain ⟨z1, z2, z3, z4⟩ := freeze_rest w.drew ⟨(ι g).blk, o, none⟩ n
  have hne : ∀ k, k ≠ (ι g).blk → (w.drew.freeze ⟨(ι g).blk, o, none⟩ n).heap[k]? = w.heap[k]? := fun k hk => freeze_heap_ne _ _ _ _ hk
  have hk := h.kill g
  have hgl := h.glob.own g (.of hg)
  refine ⟨⟨fun b ro s' cs' hb => ?_, fun b x hb => (by
    have h1 := hk.oth b x hb
    obtain ⟨hb', hbg⟩ := get_of_set_none hb
    rw [hne _ (h.inj b g (by rw [hb']; simp) (.of hg) (Ne.symm hbg))]
    exact h1), hk.inj, ⟨hk.glob.known.keep fun k hk' => hne k (by omega), hk.glob.own⟩⟩, ⟨z2, z3, z4, by rw [z1]; exact Nat.le_refl _, fun _ hb => Mem.has_set none hb, fun _ _ => rfl, fun k _ hno => hne k fun e => hno g (.of hg) e.symm, fun b hb => .inr ⟨b, own_of_set_none hb, rfl⟩⟩⟩
  obtain ⟨hb', hbg⟩ := get_of_set_none hb
  obtain ⟨C, e, fz, k1, k2⟩ := hk.at' b ro s' cs' hb
  exact ⟨C, e, fz, by rw [hne _ (h.inj b g (by rw [hb']; simp) (.of hg) (Ne.symm hbg))]; exact k1, k2⟩
set_option maxHeartbeats 2000000 in
set_option maxRecDepth 100000 in
theorem bstr_spec (K p : Nat) (M : Mem) (l : List UInt8) (hB : BAt K M p l) :
    Spec Tryz.prog 19 [.pointer (some ⟨p, 0, none⟩)] M fun u M' => u = .string (str l) ∧ Keeps K M M' := by
  intro ι w ys hy hr
  obtain ⟨y0, rfl, h0⟩ := vrels_one hy
  obtain ⟨hKp, a, V, hg, ha, hV⟩ := hB
  obtain ⟨C, e, fz, hC, hsz, hst, hlen', hv, hfz⟩ := hr.at' p false 0 _ hg
  obtain ⟨t1, t2, t3⟩ := hst.tag.1 rfl (by simp)
  obtain ⟨P0, hP0⟩ : ∃ P0, P0 = (ι p).blk := ⟨_, rfl⟩
  have hy0 : y0 = .pointer (some ⟨P0, 0, none⟩) := by
    cases h0
    rw [t2, hP0]
  subst hy0
  obtain ⟨o2, V', b3, b4⟩ := hv 1 V rfl
  rw [t2, Nat.zero_add] at b3
  rw [← hP0] at hC
  have c1 : w.drew.cell? ⟨P0, 1, none⟩ = some V' := by
    have : w.drew.heap[P0]? = some (.cells C e fz) := hC
    rw [cell_of_block this]; exact b3
  rcases hV with ⟨rfl, rfl⟩ | ⟨hl0, g, rest, h2, h3, rfl, h5, h6⟩
  · cases b4
    refine (bstr_walk P0 w _ none 0 0 ⟨#[]⟩ w.drew rfl c1 none rfl (Lib.run_unsafeString_none _ _ _ _ none)).mono ?_
    rintro e w' ⟨rfl, rfl⟩
    have hb : Below w.heap.size w w.drew := (Below.refl _ w).trans ⟨rfl, rfl, rfl, Nat.le_refl _, fun _ _ => rfl⟩
    refine ⟨_, _, ι, M, ⟨rfl, Keeps.refl _ _⟩, rfl, .string _, hr.same fun _ _ => rfl, ⟨rfl, rfl, rfl, Nat.le_refl _, fun b h => h, fun _ _ => rfl, fun _ _ _ => rfl, fun b hb => .inr ⟨b, hb, rfl⟩⟩⟩
  · obtain ⟨D, e2, fz2, hD, hDs, hDt, hDl, hDv, hDf⟩ := hr.at' g false bufS _ h6
    have hbl : (bytesV l).length = l.length := by simp [bytesV]
    have hl1 : 0 < l.length := List.length_pos_iff.2 hl0
    have hcl : (bytesV l ++ rest).length = l.length + rest.length := by rw [List.length_append, hbl]
    obtain ⟨s1, s2, s3⟩ := hDt.tag.2 rfl (by omega) (by rw [hcl]; unfold maxLen at h5; unfold bufS; omega)
    have te : e2 = 5 := by
      have : bufT = some 5 := rfl
      rw [this] at s1; cases s1; rfl
    subst te
    rw [hcl] at hDl
    generalize hkk : l.length = k at b4
    generalize k + rest.length = c at b4
    cases b4 with
    | empty _ _ o' hlt => omega
    | slice _ _ _ _ cap' hlt hl hc =>
      subst hkk
      have hcc : cap' ≠ 0 := by rcases hc with hc | hc <;> omega
      rw [s2, Nat.add_zero] at c1
      refine (bstr_walk P0 w _ _ _ _ ⟨l.toArray⟩ _ rfl c1 _ (Lib.run_unsafeSliceData_row _ _ _ _ _ _ hcc) (Lib.run_unsafeString_row w.drew 120 3 9 5 Tryz.underlying120 (by kernel_rfl) (ι g).blk D.size
        (by have hD' : w.drew.heap[(ι g).blk]? = some (.cells D 5 fz2) := hD
            simp [World.shape?, hD']) l hl0 (by omega) (by unfold maxLen at h5; omega) ?_)).mono ?_
      · intro j x hx
        obtain ⟨_, u', h8, h9⟩ := hDv j (.int .u8 x.toNat) (by
          have : (bytesV l)[j]? = some (.int .u8 x.toNat) := by simp [bytesV, hx, byteV]
          rw [List.getElem?_append_left (List.getElem?_eq_some_iff.1 this).1]; exact this)
        cases h9
        rw [s2, Nat.zero_add] at h8
        have hD' : w.drew.heap[(ι g).blk]? = some (.cells D 5 fz2) := hD
        rw [Addr_add, cell_of_block hD', Nat.zero_add]
        exact h8
      · rintro e w' ⟨rfl, rfl⟩
        obtain ⟨k1, k2⟩ := hr.frozen h6 0 l.length
        refine ⟨_, _, ι, M.set g none, ⟨rfl, Keeps.set h2 h6 _⟩, rfl, .string _, k1, k2⟩
end Go.Proofs.YtmnebimijlnlkaaGreatDoor.Abs
namespace Go.Proofs.YtmnebimijlnlkaaGreatDoor
open Go.RowKit Abs
theorem cat_str (a b : List UInt8) : bcat (str a) (str b) = str (a ++ b) := by
  unfold bcat str
  simp
theorem siz_str (a : List UInt8) : bsize (str a) = a.length := rfl
end Go.Proofs.YtmnebimijlnlkaaGreatDoor
namespace Go.Proofs.YtmnebimijlnlkaaGreatDoor
open Go.RowKit Abs
abbrev Sec := Int × Int × Int
def secC (x : Sec) : List Value := [.int .i64 x.1, .int .i64 x.2.1, .int .i64 x.2.2]
theorem secC_len (x : Sec) : (secC x).length = 3 := rfl
def SecsAt (m : Mem) (a : Option Addr) (S : List Sec) : Prop := S = [] ∨ ∃ g ro, a = some ⟨g, 0, none⟩ ∧ m.get g = some (.cells ro 3 (S.flatMap secC))
def goesOn (S : List Sec) (x : Sec) (i : Nat) : Bool := (x.1 == 0 || x.1 == 5) && (decide (i + 1 < S.length) && decide (S[i + 1]? = some x))
theorem goesOn_lt {S : List Sec} {x : Sec} {i : Nat} (h : goesOn S x i = true) : i + 1 < S.length := by
  unfold goesOn at h
  simp only [Bool.and_eq_true, decide_eq_true_eq] at h
  exact h.2.1
def lastI (S : List Sec) (x : Sec) (i : Nat) : Nat := if _h : goesOn S x i = true then lastI S x (i + 1) else i
termination_by S.length - i
decreasing_by have := goesOn_lt _h; omega
theorem lastI_ge (S : List Sec) (x : Sec) (i : Nat) : i ≤ lastI S x i := by
  rw [lastI]
  split
  · rename_i h
    have := goesOn_lt h
    have := lastI_ge S x (i + 1)
    omega
  · exact Nat.le_refl _
termination_by S.length - i
theorem lastI_lt (S : List Sec) (x : Sec) (i : Nat) (hi : i < S.length) : lastI S x i < S.length := by
  rw [lastI]
  split
  · rename_i h
    exact lastI_lt S x (i + 1) (goesOn_lt h)
  · exact hi
termination_by S.length - i
def wordsS : List (List UInt8) := [[98, 108, 97, 110, 107], [101, 112, 111, 99, 104], [114, 101, 99, 111, 114, 100], [101, 110, 116, 114, 121], [98, 108, 111, 99, 107], [115, 116, 114, 97, 121], [119, 114, 111, 110, 103]]
def nameW (k : Int) : List UInt8 := (wordsS[(min (max k 0) 6).toNat]?).getD []
def rangeW (i j : Nat) : List UInt8 := Lib.itoa (i : Nat) ++ (if i < j then [45] ++ Lib.itoa (j : Nat) else [])
def idW (x : Sec) : List UInt8 := if x.1 = 2 ∨ x.1 = 3 ∨ x.1 = 4 then [32] ++ Lib.itoa x.2.1 else []
def numW (x : Sec) : List UInt8 := if x.1 = 1 ∨ x.1 = 4 then [32] ++ Lib.itoa x.2.2 else []
def sectLine (x : Sec) (i j : Nat) : List UInt8 := rangeW i j ++ ([32] ++ nameW x.1) ++ idW x ++ numW x ++ [10]
def textV (S : List Sec) (i : Nat) : List UInt8 := if h : i < S.length then sectLine S[i] i (lastI S S[i] i) ++ textV S (lastI S S[i] i + 1) else []
termination_by S.length - i
decreasing_by have := lastI_ge S S[i] i; omega
theorem bd_words : aBuild Tryz.prog 119 [(0, .string ⟨#[98, 108, 97, 110, 107]⟩), (1, .string ⟨#[101, 112, 111, 99, 104]⟩), (2, .string ⟨#[114, 101, 99, 111, 114, 100]⟩), (3, .string ⟨#[101, 110, 116, 114, 121]⟩), (4, .string ⟨#[98, 108, 111, 99, 107]⟩), (5, .string ⟨#[115, 116, 114, 97, 121]⟩), (6, .string ⟨#[119, 114, 111, 110, 103]⟩)] = some (.agg (wordsS.map fun w => .string (str w)).toArray) := by kernel_rfl
theorem idx_words (k : Nat) (hk : k < 7) : aIndex Tryz.prog 119 (.agg (wordsS.map fun w => .string (str w)).toArray) (.int .i64 (k : Nat)) = some (.string (str ((wordsS[k]?).getD []))) := by
  rcases (by omega : k = 0 ∨ k = 1 ∨ k = 2 ∨ k = 3 ∨ k = 4 ∨ k = 5 ∨ k = 6) with rfl | rfl | rfl | rfl | rfl | rfl | rfl <;> kernel_rfl
set_option maxRecDepth 100000 in
set_option maxHeartbeats 2000000 in
theorem name_spec (n : Int) (m : Mem) : Abs.Spec Tryz.prog 18 [.int .i64 n] m fun u M => u = .string (str (nameW n)) ∧ M = m := by
  refine Abs.Spec.walkM Tryz.func18 (by rfl) _ Tryz.results18 _ Tryz.ntmps18 (by simp) ?_
  intro hc hx k
  have hk : min (max n 0) 6 = (((min (max n 0) 6).toNat : Nat) : Int) := by omega
  have hix := idx_words (min (max n 0) 6).toNat (by omega)
  rw [← hk] at hix
  refine CW_seq (CW_region ?_)
  simp only [zZ, reduceIte, Nat.reduceLT, Int.reduceToNat, Int.reduceLE, Int.reduceEq, Int.reduceLT, Nat.reduceEqDiff, Nat.reduceAdd, zDk]
  refine CW_seq (CW_region ?_)
  simp only [zZ, reduceIte, Nat.reduceLT, Int.reduceToNat, Int.reduceLE, Int.reduceEq, Int.reduceLT, Nat.reduceEqDiff, Nat.reduceAdd, zDk, bd_words, vMax_int, vMin_int, hix]
  refine CW_ret ?_
  simp only [zZ, reduceIte, Nat.reduceLT, Int.reduceToNat, Int.reduceLE, Int.reduceEq, Int.reduceLT, Nat.reduceEqDiff, Nat.reduceAdd, zDk, mEnd, sAnswer, sAnswer.sRes]
  exact ⟨_, Thin.refl _, rfl, rfl⟩
end Go.Proofs.YtmnebimijlnlkaaGreatDoor
namespace Go.Proofs.YtmnebimijlnlkaaGreatDoor
open Go.RowKit Abs
def chainB : List Bool → Option Bool
  | [] => some true
  | b :: r => match some b with
    | some true => chainB r
    | some false => some false
    | none => none
theorem chainB_eq : ∀ l : List Bool, chainB l = some (l.all id)
  | [] => rfl
  | true :: r => by simp [chainB, chainB_eq r]
  | false :: r => by simp [chainB]
set_option maxRecDepth 100000 in
theorem eqSec (cx : Bool) (x y : Sec) : aBin Tryz.prog .eql 27 cx (.agg (secC x).toArray) (.agg (secC y).toArray) = some (.bool (decide (x = y))) := by
  obtain ⟨a1, a2, a3⟩ := x
  obtain ⟨b1, b2, b3⟩ := y
  have e0 : aBin Tryz.prog .eql 27 cx (.agg (secC (a1, a2, a3)).toArray) (.agg (secC (b1, b2, b3)).toArray) = (chainB [a1 == b1, a2 == b2, a3 == b3]).map .bool := by cases cx <;> kernel_rfl
  rw [e0, chainB_eq, Option.map_some]
  congr 2
  rw [Bool.eq_iff_iff]
  simp only [List.all_cons, List.all_nil, id, Bool.and_true, Bool.and_eq_true, beq_iff_eq, decide_eq_true_eq, Prod.mk.injEq]
def isI64' (n : Int) : Prop := -9223372036854775808 ≤ n ∧ n ≤ 9223372036854775807
theorem al_B : nAlloc Tryz.prog 51 = some (.cells false 0 [.pointer none, .slice none 0 0]) := by kernel_rfl
theorem bat_keep' {K p : Nat} {M M' : Mem} {t : List UInt8} (h : BAt K M p t) (hk : ∀ b x, M.get b = some x → M'.get b = some x) : BAt K M' p t := by
  obtain ⟨h1, a, V, h2, h3, h4⟩ := h
  refine ⟨h1, a, V, hk _ _ h2, h3, ?_⟩
  rcases h4 with h4 | ⟨h5, g, rest, h6, h7, h8, h9, h10⟩
  · exact .inl h4
  · exact .inr ⟨h5, g, rest, h6, h7, h8, h9, hk _ _ h10⟩
set_option maxRecDepth 100000 in
set_option maxHeartbeats 4000000 in
theorem text_walk (S : List Sec) (a : Option Addr) (ca : Nat) (m : Mem) (hA : SecsAt m a S) (hok : ∀ x ∈ S, isI64' x.2.1 ∧ isI64' x.2.2) (hl : S.length ≤ 1000000) (hT : (textV S 0).length ≤ 1000000000) :
    Abs.Spec Tryz.prog 7 [.slice a S.length ca] m fun u M => u = .string (str (textV S 0)) ∧ Keeps m.size m M := by
  refine Abs.Spec.walkM Tryz.func7 (by rfl) _ Tryz.results7 _ Tryz.ntmps7 (by simp) ?_
  intro hc hx k
  obtain ⟨T, hTe⟩ : ∃ T, T = textV S 0 := ⟨_, rfl⟩
  rw [← hTe] at hT ⊢
  have hal : nAlloc Tryz.prog 27 = some (.cells false (aStride Tryz.prog 27) [.int .i64 0, .int .i64 0, .int .i64 0]) := al_Sec
  generalize aStride Tryz.prog 27 = s2 at hal
  have hB := al_B
  refine CW_seq (CW_region ?_)
  simp only [zZ, reduceIte, Nat.reduceLT, Int.reduceToNat, Int.reduceLE, Int.reduceEq, Int.reduceLT, Nat.reduceEqDiff, Nat.reduceAdd, zDk]
  refine CW_seq (CW_region ?_)
  simp only [zZ, reduceIte, Nat.reduceLT, Int.reduceToNat, Int.reduceLE, Int.reduceEq, Int.reduceLT, Nat.reduceEqDiff, Nat.reduceAdd, zDk, hB]
  obtain ⟨M0, hM0⟩ : ∃ M0, M0 = m.push (.cells false 0 [.pointer none, .slice none 0 0]) := ⟨_, rfl⟩
  obtain ⟨p, hp⟩ : ∃ p, p = m.size := ⟨_, rfl⟩
  rw [← hM0, ← hp]
  have hM0s : M0.size = p + 1 := by rw [hM0, Mem.size_push, hp]
  have hold0 : ∀ b y, m.get b = some y → M0.get b = some y := fun b y hb => by rw [hM0, Mem.get_push_old (get_live hb)]; exact hb
  have hB0 : BAt p M0 p [] := ⟨Nat.le_refl _, _, _, by rw [hM0, hp]; exact Mem.get_push_new _ _, .inl rfl, .inl ⟨rfl, rfl⟩⟩
  refine CW_seq (CW_seq (CW_region ?_))
  simp only [zZ, reduceIte, Nat.reduceLT, Int.reduceToNat, Int.reduceLE, Int.reduceEq, Int.reduceLT, Nat.reduceEqDiff, Nat.reduceAdd, zDk]
  refine CW_block (MW_loop (fun j f M => ∃ (i : Nat) (t : List UInt8), j = S.length - i ∧ f = [(0, .slice a S.length ca), (3, .pointer (some ⟨p, 0, none⟩)), (4, .int .i64 (i : Nat))] ∧
    Keeps p M0 M ∧ p < M.size ∧ BAt p M p t ∧ T = t ++ textV S i) S.length ?_ ?_)
  · refine ⟨[0, 3, 4], ?_⟩
    simp only [zZ, reduceIte, Nat.reduceLT, Int.reduceToNat, Int.reduceLE, Int.reduceEq, Int.reduceLT, Nat.reduceEqDiff, Nat.reduceAdd, keepF]
    exact ⟨M0, Thin.refl _, 0, [], rfl, rfl, Keeps.refl _ _, by omega, hB0, by rw [hTe]; rfl⟩
  · rintro j f M ⟨i, t, rfl, rfl, hk, hs, hb, hTt⟩
    refine CW_seq (CW_seq (CW_region ?_))
    simp only [zZ, reduceIte, Nat.reduceLT, Int.reduceToNat, Int.reduceLE, Int.reduceEq, Int.reduceLT, Nat.reduceEqDiff, Nat.reduceAdd, zDk]
    refine CW_cond (decide ((i : Int) < (S.length : Int))) (by rfl) (fun h => CW_skip ?_) (fun h => CW_exit ?_)
    · have hil : i < S.length := by have := of_decide_eq_true h; omega
      obtain ⟨ga, ra, rfl, hga⟩ : ∃ g ro, a = some ⟨g, 0, none⟩ ∧ m.get g = some (.cells ro 3 (S.flatMap secC)) := by
        rcases hA with h0 | h0
        · rw [h0] at hil; simp at hil
        · exact h0
      have hgal : ga < p := by rw [hp]; exact get_live hga
      have hgM : ∀ M', Keeps p M0 M' → M'.get ga = some (.cells ra 3 (S.flatMap secC)) := fun M' hk' => hk'.1 _ _ hgal (hold0 _ _ hga)
      obtain ⟨x, hX⟩ : ∃ x, S[i]? = some x := ⟨_, List.getElem?_eq_getElem hil⟩
      have hXS : S[i] = x := by have := List.getElem?_eq_getElem hil; rw [hX] at this; exact (Option.some.inj this).symm
      obtain ⟨hx1, hx2⟩ := hok x (List.mem_of_getElem? hX)
      have g0 : (0 : Int) ≤ (i : Int) := by omega
      have g1 : (i : Int) < (S.length : Int) := by omega
      have rowAt : ∀ (i' : Nat) (y : Sec), S[i']? = some y → rowIn 3 (i' * 3) (some (.cells ra 3 (S.flatMap secC))) = some (.agg (secC y).toArray) := fun i' y hy => rowIn_at (n := 3) (fun a _ => secC_len a) hy ra 3
      have r1 := rowAt i x hX
      have ti : ∀ i' : Nat, i' < S.length → IntKind.i64.wrap ((i' : Int) + 1) = ((i' + 1 : Nat) : Int) := fun i' hi => by rw [wri (by omega) (by omega)]; omega
      have tv : textV S i = sectLine x i (lastI S x i) ++ textV S (lastI S x i + 1) := by
        rw [textV, dif_pos hil, hXS]
      simp only [zZ, reduceIte, Nat.reduceLT, Int.reduceToNat, Int.reduceLE, Int.reduceEq, Int.reduceLT, Nat.reduceEqDiff, Nat.reduceAdd]
      refine CW_seq (CW_block (CW_seq (CW_region ?_)))
      have hput : putIn 3 (M.push (.cells false s2 [.int .i64 0, .int .i64 0, .int .i64 0])) M.size 0 (secC x) (some (.cells false s2 [.int .i64 0, .int .i64 0, .int .i64 0])) = some (M.push (.cells false s2 (secC x))) := by
        simp only [putIn]
        rw [if_pos ⟨rfl, Nat.le_refl 3, rfl⟩]
        congr 1
        exact push_set _ _ _
      simp only [zZ, reduceIte, Nat.reduceLT, Int.reduceToNat, Int.reduceLE, Int.reduceEq, Int.reduceLT, Nat.reduceEqDiff, Nat.reduceAdd, zDk, g0, g1, and_self, hgM M hk, r1, hal, Mem.get_push_new, agg_cells, hput]
      obtain ⟨M2, hM2⟩ : ∃ M2, M2 = M.push (.cells false s2 (secC x)) := ⟨_, rfl⟩
      obtain ⟨bs, hbs⟩ : ∃ bs, bs = M.size := ⟨_, rfl⟩
      have hg2 : M2.get bs = some (.cells false s2 (secC x)) := by rw [hM2, hbs, Mem.get_push_new]
      have hold3 : ∀ b y, M.get b = some y → (fz1 bs M2).get b = some y := fun b y hy => by
        have := get_live hy
        rw [fz1_ne (by omega), hM2, Mem.get_push_old this]; exact hy
      have hs3 : (fz1 bs M2).size = M.size + 1 := by unfold fz1; rw [hg2]; simp only [Mem.size_set]; rw [hM2, Mem.size_push]
      have hg3 : (fz1 bs M2).get bs = some (.cells true s2 (secC x)) := fz1_get hg2
      have hb3 : BAt p (fz1 bs M2) p t := bat_keep' hb hold3
      have hk3 : Keeps p M0 (fz1 bs M2) := hk.trans ⟨fun b y _ hy => hold3 b y hy, fun b s cs hy => hold3 b _ hy⟩
      rw [← hM2, ← hbs]
      refine MW_mid (fun f M' => f = [(0, .slice (some ⟨ga, 0, none⟩) S.length ca), (3, .pointer (some ⟨p, 0, none⟩)), (4, .int .i64 (lastI S x i : Nat)), (5, .pointer (some ⟨bs, 0, none⟩)), (6, .int .i64 (i : Nat))] ∧ M' = fz1 bs M2) ?_ ?_
      · -- the same ones
        refine CW_block (MW_loop (fun j f M' => ∃ i' : Nat, j = S.length - i' ∧ f = [(0, .slice (some ⟨ga, 0, none⟩) S.length ca), (3, .pointer (some ⟨p, 0, none⟩)), (4, .int .i64 (i' : Nat)), (5, .pointer (some ⟨bs, 0, none⟩)), (6, .int .i64 (i : Nat))] ∧
          i' < S.length ∧ lastI S x i' = lastI S x i ∧ M' = fz1 bs M2) (S.length - i) ?_ ?_)
        · refine ⟨[0, 3, 4, 5, 6], ?_⟩
          simp only [zZ, reduceIte, Nat.reduceLT, Int.reduceToNat, Int.reduceLE, Int.reduceEq, Int.reduceLT, Nat.reduceEqDiff, Nat.reduceAdd, keepF]
          exact ⟨fz1 bs M2, fz1_thin _ _, i, rfl, rfl, hil, rfl, rfl⟩
        · rintro j f M' ⟨i', rfl, rfl, hi', hla, e9⟩
          replace e9 := e9.symm
          have hgk := hgM _ hk3
          rw [e9] at hg3 hgk
          have w1 := ti i' hi'
          have go : ∀ b, goesOn S x i' = b → (b = false → lastI S x i' = i') ∧ (b = true → i' + 1 < S.length ∧ lastI S x (i' + 1) = lastI S x i') := fun b hb => by
            refine ⟨fun h => ?_, fun h => ?_⟩
            · rw [lastI, dif_neg (by rw [hb, h]; simp)]
            · refine ⟨goesOn_lt (by rw [hb, h]), ?_⟩
              conv => rhs; rw [lastI, dif_pos (by rw [hb, h])]
          have c0 : cellIn 0 (some (.cells true s2 (secC x))) = some (.int .i64 x.1) := rfl
          have rx : rowIn 3 0 (some (.cells true s2 (secC x))) = some (.agg (secC x).toArray) := rfl
          refine CW_seq (CW_seq (CW_draw hmix 22 (by kernel_rfl) (by kernel_rfl) ?_))
          have ends : lastI S x i' = i' → ∀ (f : AL), AL.get f 0 = some (.slice (some ⟨ga, 0, none⟩) S.length ca) → AL.get f 3 = some (.pointer (some ⟨p, 0, none⟩)) → AL.get f 4 = some (.int .i64 (i' : Nat)) → AL.get f 5 = some (.pointer (some ⟨bs, 0, none⟩)) → AL.get f 6 = some (.int .i64 (i : Nat)) →
              @JoinM f M' ⟨fun f M' => f = [(0, .slice (some ⟨ga, 0, none⟩) S.length ca), (3, .pointer (some ⟨p, 0, none⟩)), (4, .int .i64 (lastI S x i : Nat)), (5, .pointer (some ⟨bs, 0, none⟩)), (6, .int .i64 (i : Nat))] ∧ M' = fz1 bs M2⟩ := fun he f h0 h3 h4 h5 h6 => by
            refine ⟨[0, 3, 4, 5, 6], ?_⟩
            simp only [keepF, h0, h3, h4, h5, h6, zZ, reduceIte, Nat.reduceLT, Int.reduceToNat, Int.reduceLE, Int.reduceEq, Int.reduceLT, Nat.reduceEqDiff, Nat.reduceAdd]
            exact ⟨M', Thin.refl _, by rw [← hla, he], e9.symm⟩
          have quiet : (x.1 == 0 || x.1 == 5) = true → ∀ b, b = decide (((i' + 1 : Nat) : Int) < (S.length : Int)) → True := fun _ _ _ => trivial
          by_cases hq : (x.1 == 0) = false ∧ (x.1 == 5) = false
          · obtain ⟨q0, q5⟩ := hq
            have hgo := go false (by unfold goesOn; rw [q0, q5]; rfl)
            simp only [zZ, reduceIte, Nat.reduceLT, Int.reduceToNat, Int.reduceLE, Int.reduceEq, Int.reduceLT, Nat.reduceEqDiff, Nat.reduceAdd, zDk, hg3, c0, q0, q5]
            refine CW_cond false (by rfl) (fun h => by cases h) (fun _ => CW_exit ?_)
            simp only [zZ, reduceIte, Nat.reduceLT, Int.reduceToNat, Int.reduceLE, Int.reduceEq, Int.reduceLT, Nat.reduceEqDiff, Nat.reduceAdd]
            exact ends (hgo.1 rfl) _ rfl rfl rfl rfl rfl
          · have hqq : (x.1 == 0 || x.1 == 5) = true := by
              cases h0 : (x.1 == 0) <;> cases h5 : (x.1 == 5) <;> simp_all
            cases q2 : decide (((i' + 1 : Nat) : Int) < (S.length : Int))
            · have hgo := go false (by
                have := of_decide_eq_false q2
                unfold goesOn
                rw [decide_eq_false (show ¬ i' + 1 < S.length by omega)]; simp)
              cases q0 : (x.1 == 0) <;> cases q5 : (x.1 == 5)
              · rw [q0, q5] at hqq; cases hqq
              all_goals
                simp only [zZ, reduceIte, Nat.reduceLT, Int.reduceToNat, Int.reduceLE, Int.reduceEq, Int.reduceLT, Nat.reduceEqDiff, Nat.reduceAdd, zDk, hg3, c0, q0, q5, w1, q2]
                refine CW_cond false (by rfl) (fun h => by cases h) (fun _ => CW_exit ?_)
                simp only [zZ, reduceIte, Nat.reduceLT, Int.reduceToNat, Int.reduceLE, Int.reduceEq, Int.reduceLT, Nat.reduceEqDiff, Nat.reduceAdd]
                exact ends (hgo.1 rfl) _ rfl rfl rfl rfl rfl
            · have hi1 : i' + 1 < S.length := by have := of_decide_eq_true q2; omega
              obtain ⟨y, hY⟩ : ∃ y, S[i' + 1]? = some y := ⟨_, List.getElem?_eq_getElem hi1⟩
              have r2 := rowAt (i' + 1) y hY
              have g2 : (0 : Int) ≤ ((i' + 1 : Nat) : Int) := by omega
              have g3 : ((i' + 1 : Nat) : Int) < (S.length : Int) := by omega
              have hgo := go (decide (y = x)) (by
                unfold goesOn
                rw [hqq, decide_eq_true hi1, hY]
                simp)
              have wi := ti (i' + 1) hi1
              have fin : ∀ (f : AL), AL.get f 0 = some (.slice (some ⟨ga, 0, none⟩) S.length ca) → AL.get f 3 = some (.pointer (some ⟨p, 0, none⟩)) → AL.get f 4 = some (.int .i64 (i' : Nat)) → AL.get f 5 = some (.pointer (some ⟨bs, 0, none⟩)) → AL.get f 6 = some (.int .i64 (i : Nat)) → True := fun _ _ _ _ _ _ => trivial
              cases q0 : (x.1 == 0) <;> cases q5 : (x.1 == 5)
              · rw [q0, q5] at hqq; cases hqq
              all_goals
                simp only [zZ, reduceIte, Nat.reduceLT, Int.reduceToNat, Int.reduceLE, Int.reduceEq, Int.reduceLT, Nat.reduceEqDiff, Nat.reduceAdd, zDk, hg3, c0, q0, q5, w1, q2, g2, g3, and_self, hgk, r2, rx, eqSec, decide_true]
                refine CW_cond (decide (y = x)) (by rfl) (fun h => CW_skip ?_) (fun h => CW_exit ?_)
                · simp only [zZ, reduceIte, Nat.reduceLT, Int.reduceToNat, Int.reduceLE, Int.reduceEq, Int.reduceLT, Nat.reduceEqDiff, Nat.reduceAdd]
                  refine CW_block (CW_region ?_)
                  simp only [zZ, reduceIte, Nat.reduceLT, Int.reduceToNat, Int.reduceLE, Int.reduceEq, Int.reduceLT, Nat.reduceEqDiff, Nat.reduceAdd, zDk, w1]
                  refine ⟨[0, 3, 4, 5, 6], ?_⟩
                  simp only [zZ, reduceIte, Nat.reduceLT, Int.reduceToNat, Int.reduceLE, Int.reduceEq, Int.reduceLT, Nat.reduceEqDiff, Nat.reduceAdd, keepF]
                  exact ⟨M', Thin.refl _, S.length - (i' + 1), ⟨i' + 1, rfl, rfl, hi1, ((hgo.2 h).2).trans hla, e9.symm⟩, by omega⟩
                · simp only [zZ, reduceIte, Nat.reduceLT, Int.reduceToNat, Int.reduceLE, Int.reduceEq, Int.reduceLT, Nat.reduceEqDiff, Nat.reduceAdd]
                  exact ends (hgo.1 h) _ rfl rfl rfl rfl rfl
      · rintro _ _ ⟨rfl, rfl⟩
        obtain ⟨l, hl'⟩ : ∃ l, l = lastI S x i := ⟨_, rfl⟩
        obtain ⟨M3, hM3⟩ : ∃ M3, M3 = fz1 bs M2 := ⟨_, rfl⟩
        rw [← hl'] at tv ⊢
        rw [← hM3] at hb3 hk3 hg3 hs3 ⊢
        have hlS : l < S.length := by rw [hl']; exact lastI_lt S x i hil
        have hil' : i ≤ l := by rw [hl']; exact lastI_ge S x i
        have hlen : t.length + (rangeW i l).length + (1 + (nameW x.1).length) + (idW x).length + (numW x).length + 1 ≤ 1000000000 := by
          rw [hTt, tv] at hT
          simp only [sectLine, List.length_append, List.length_cons, List.length_nil] at hT
          omega
        have zc45 : (⟨#[45]⟩ : ByteArray) = str [45] := rfl
        have zc32 : (⟨#[32]⟩ : ByteArray) = str [32] := rfl
        have hR : (Lib.itoa ((i : Nat) : Int)).length ≤ (rangeW i l).length := by unfold rangeW; simp
        have c0 : cellIn 0 (some (.cells true s2 (secC x))) = some (.int .i64 x.1) := rfl
        have c1 : cellIn 1 (some (.cells true s2 (secC x))) = some (.int .i64 x.2.1) := rfl
        have c2 : cellIn 2 (some (.cells true s2 (secC x))) = some (.int .i64 x.2.2) := rfl
        refine CW_seq (CW_region ?_)
        simp only [zZ, reduceIte, Nat.reduceLT, Int.reduceToNat, Int.reduceLE, Int.reduceEq, Int.reduceLT, Nat.reduceEqDiff, Nat.reduceAdd, zDk]
        refine ⟨by kernel_rfl, _, itoa_spec ((i : Nat) : Int) (by omega) (by omega) _, ?_⟩
        rintro _ M9 ⟨rfl, e9⟩; replace e9 := e9.symm; subst e9
        simp only [zZ, reduceIte, Nat.reduceLT, Int.reduceToNat, Int.reduceLE, Int.reduceEq, Int.reduceLT, Nat.reduceEqDiff, Nat.reduceAdd, zDk]
        refine ⟨by kernel_rfl, _, ws_spec p p _ t (str (Lib.itoa ((i : Nat) : Int))) hb3 (by show t.length + (Lib.itoa ((i : Nat) : Int)).length ≤ _; omega), ?_⟩
        rintro _ M4 ⟨rfl, hb4, hk4, hs4⟩
        simp only [zZ, reduceIte, Nat.reduceLT, Int.reduceToNat, Int.reduceLE, Int.reduceEq, Int.reduceLT, Nat.reduceEqDiff, Nat.reduceAdd, zDk]
        refine MW_mid (fun f M' => f = [(0, .slice (some ⟨ga, 0, none⟩) S.length ca), (3, .pointer (some ⟨p, 0, none⟩)), (4, .int .i64 (l : Nat)), (5, .pointer (some ⟨bs, 0, none⟩)), (6, .int .i64 (i : Nat))] ∧ BAt p M' p (t ++ rangeW i l) ∧ Keeps p M3 M' ∧ M3.size ≤ M'.size) ?_ ?_
        · refine CW_seq (CW_region ?_)
          simp only [zZ, reduceIte, Nat.reduceLT, Int.reduceToNat, Int.reduceLE, Int.reduceEq, Int.reduceLT, Nat.reduceEqDiff, Nat.reduceAdd, zDk]
          refine CW_cond (decide ((i : Int) < (l : Int))) (by rfl) (fun h => CW_region ?_) (fun h => CW_skip ?_)
          · have h := of_decide_eq_true h
            have hr : rangeW i l = Lib.itoa ((i : Nat) : Int) ++ ([45] ++ Lib.itoa ((l : Nat) : Int)) := by unfold rangeW; rw [if_pos (by omega)]
            have hr2 : (rangeW i l).length = (Lib.itoa ((i : Nat) : Int)).length + (1 + (Lib.itoa ((l : Nat) : Int)).length) := by rw [hr]; simp only [List.length_append, List.length_cons, List.length_nil] <;> omega
            simp only [zZ, reduceIte, Nat.reduceLT, Int.reduceToNat, Int.reduceLE, Int.reduceEq, Int.reduceLT, Nat.reduceEqDiff, Nat.reduceAdd, zDk]
            refine ⟨by kernel_rfl, _, itoa_spec ((l : Nat) : Int) (by omega) (by omega) _, ?_⟩
            rintro _ M9 ⟨rfl, e9⟩; replace e9 := e9.symm; subst e9
            simp only [zZ, reduceIte, Nat.reduceLT, Int.reduceToNat, Int.reduceLE, Int.reduceEq, Int.reduceLT, Nat.reduceEqDiff, Nat.reduceAdd, zDk, zc45, cat_str, siz_str]
            refine ⟨by first | omega | (simp only [List.length_append, List.length_cons, List.length_nil] <;> omega), ?_⟩
            refine ⟨by kernel_rfl, _, ws_spec p p _ _ (str ([45] ++ Lib.itoa ((l : Nat) : Int))) hb4 (by show (t ++ Lib.itoa ((i : Nat) : Int)).length + ([45] ++ Lib.itoa ((l : Nat) : Int)).length ≤ _; simp only [List.length_append, List.length_cons, List.length_nil] <;> omega), ?_⟩
            rintro _ M5 ⟨rfl, hb5, hk5, hs5⟩
            simp only [zZ, reduceIte, Nat.reduceLT, Int.reduceToNat, Int.reduceLE, Int.reduceEq, Int.reduceLT, Nat.reduceEqDiff, Nat.reduceAdd, zDk]
            refine ⟨[0, 3, 4, 5, 6], ?_⟩
            simp only [zZ, reduceIte, Nat.reduceLT, Int.reduceToNat, Int.reduceLE, Int.reduceEq, Int.reduceLT, Nat.reduceEqDiff, Nat.reduceAdd, keepF]
            refine ⟨M5, Thin.refl _, ?_, hk4.trans hk5, by omega⟩
            rw [hr, ← List.append_assoc]
            exact hb5
          · have h := of_decide_eq_false h
            have hr : rangeW i l = Lib.itoa ((i : Nat) : Int) := by unfold rangeW; rw [if_neg (by omega)]; exact List.append_nil _
            refine ⟨[0, 3, 4, 5, 6], ?_⟩
            simp only [zZ, reduceIte, Nat.reduceLT, Int.reduceToNat, Int.reduceLE, Int.reduceEq, Int.reduceLT, Nat.reduceEqDiff, Nat.reduceAdd, keepF]
            refine ⟨M4, Thin.refl _, ?_, hk4, hs4⟩
            rw [hr]
            exact hb4
        clear hb4 hk4 hs4 M4 hb3
        rintro _ M4 ⟨rfl, hb4, hk4, hs4⟩
        have hg4 : M4.get bs = some (.cells true s2 (secC x)) := hk4.2 _ _ _ hg3
        refine CW_seq (CW_region ?_)
        simp only [zZ, reduceIte, Nat.reduceLT, Int.reduceToNat, Int.reduceLE, Int.reduceEq, Int.reduceLT, Nat.reduceEqDiff, Nat.reduceAdd, zDk, hg4, c0]
        refine ⟨by kernel_rfl, _, name_spec x.1 _, ?_⟩
        rintro _ M9 ⟨rfl, e9⟩; replace e9 := e9.symm; subst e9
        simp only [zZ, reduceIte, Nat.reduceLT, Int.reduceToNat, Int.reduceLE, Int.reduceEq, Int.reduceLT, Nat.reduceEqDiff, Nat.reduceAdd, zDk, zc32, cat_str, siz_str]
        refine ⟨by first | omega | (simp only [List.length_append, List.length_cons, List.length_nil] <;> omega), ?_⟩
        refine ⟨by kernel_rfl, _, ws_spec p p _ _ (str ([32] ++ nameW x.1)) hb4 (by show (t ++ rangeW i l).length + ([32] ++ nameW x.1).length ≤ _; simp only [List.length_append, List.length_cons, List.length_nil] <;> omega), ?_⟩
        rintro _ M5 ⟨rfl, hb5, hk5, hs5⟩
        have hg5 : M5.get bs = some (.cells true s2 (secC x)) := hk5.2 _ _ _ hg4
        simp only [zZ, reduceIte, Nat.reduceLT, Int.reduceToNat, Int.reduceLE, Int.reduceEq, Int.reduceLT, Nat.reduceEqDiff, Nat.reduceAdd, zDk]
        refine MW_mid (fun f M' => f = [(0, .slice (some ⟨ga, 0, none⟩) S.length ca), (3, .pointer (some ⟨p, 0, none⟩)), (4, .int .i64 (l : Nat)), (5, .pointer (some ⟨bs, 0, none⟩)), (6, .int .i64 (i : Nat))] ∧ BAt p M' p (t ++ rangeW i l ++ ([32] ++ nameW x.1) ++ idW x) ∧ Keeps p M3 M' ∧ M3.size ≤ M'.size) ?_ ?_
        · obtain ⟨I, hI⟩ : ∃ I, I = idW x := ⟨_, rfl⟩
          have hpre : (t ++ rangeW i l ++ ([32] ++ nameW x.1)).length = t.length + (rangeW i l).length + (1 + (nameW x.1).length) := by simp only [List.length_append, List.length_cons, List.length_nil] <;> omega
          refine CW_seq (CW_region ?_)
          by_cases hsome : x.1 = 2 ∨ x.1 = 3 ∨ x.1 = 4
          · have hI2 : idW x = [32] ++ Lib.itoa x.2.1 := if_pos hsome
            have hI3 : (idW x).length = 1 + (Lib.itoa x.2.1).length := by rw [hI2]; simp only [List.length_append, List.length_cons, List.length_nil] <;> omega
            rcases hsome with h | h | h
            all_goals
              have q2 : (x.1 == 2) = decide (x.1 = 2) := by rw [Bool.eq_iff_iff]; simp
              have q3 : (x.1 == 3) = decide (x.1 = 3) := by rw [Bool.eq_iff_iff]; simp
              have q4 : (x.1 == 4) = decide (x.1 = 4) := by rw [Bool.eq_iff_iff]; simp
              simp only [h] at q2 q3 q4
              simp only [zZ, reduceIte, Nat.reduceLT, Int.reduceToNat, Int.reduceLE, Int.reduceEq, Int.reduceLT, Nat.reduceEqDiff, Nat.reduceAdd, zDk, hg5, c0, h, q2, q3, q4, Int.reduceBEq, Int.reduceEq, decide_true, decide_false]
              refine CW_cond true (by rfl) (fun _ => CW_region ?_) (fun h => by cases h)
              simp only [zZ, reduceIte, Nat.reduceLT, Int.reduceToNat, Int.reduceLE, Int.reduceEq, Int.reduceLT, Nat.reduceEqDiff, Nat.reduceAdd, zDk, hg5, c1]
              refine ⟨by kernel_rfl, _, itoa_spec x.2.1 hx1.1 hx1.2 _, ?_⟩
              rintro _ M9 ⟨rfl, e9⟩; replace e9 := e9.symm; subst e9
              simp only [zZ, reduceIte, Nat.reduceLT, Int.reduceToNat, Int.reduceLE, Int.reduceEq, Int.reduceLT, Nat.reduceEqDiff, Nat.reduceAdd, zDk, zc32, cat_str, siz_str]
              refine ⟨by first | omega | (simp only [List.length_append, List.length_cons, List.length_nil] <;> omega), ?_⟩
              refine ⟨by kernel_rfl, _, ws_spec p p _ _ (str ([32] ++ Lib.itoa x.2.1)) hb5 (by show (t ++ rangeW i l ++ ([32] ++ nameW x.1)).length + ([32] ++ Lib.itoa x.2.1).length ≤ _; rw [hpre]; simp only [List.length_append, List.length_cons, List.length_nil] <;> omega), ?_⟩
              rintro _ M6 ⟨rfl, hb6, hk6, hs6⟩
              simp only [zZ, reduceIte, Nat.reduceLT, Int.reduceToNat, Int.reduceLE, Int.reduceEq, Int.reduceLT, Nat.reduceEqDiff, Nat.reduceAdd, zDk]
              refine ⟨[0, 3, 4, 5, 6], ?_⟩
              simp only [zZ, reduceIte, Nat.reduceLT, Int.reduceToNat, Int.reduceLE, Int.reduceEq, Int.reduceLT, Nat.reduceEqDiff, Nat.reduceAdd, keepF]
              refine ⟨M6, Thin.refl _, ?_, hk4.trans (hk5.trans hk6), by omega⟩
              rw [hI2]
              exact hb6
          · have hI2 : idW x = [] := if_neg hsome
            have q2 : (x.1 == 2) = false := by rw [beq_eq_false_iff_ne]; intro h; exact hsome (by omega)
            have q3 : (x.1 == 3) = false := by rw [beq_eq_false_iff_ne]; intro h; exact hsome (by omega)
            have q4 : (x.1 == 4) = false := by rw [beq_eq_false_iff_ne]; intro h; exact hsome (by omega)
            simp only [zZ, reduceIte, Nat.reduceLT, Int.reduceToNat, Int.reduceLE, Int.reduceEq, Int.reduceLT, Nat.reduceEqDiff, Nat.reduceAdd, zDk, hg5, c0, q2, q3, q4]
            refine CW_cond false (by rfl) (fun h => by cases h) (fun _ => CW_skip ?_)
            refine ⟨[0, 3, 4, 5, 6], ?_⟩
            simp only [zZ, reduceIte, Nat.reduceLT, Int.reduceToNat, Int.reduceLE, Int.reduceEq, Int.reduceLT, Nat.reduceEqDiff, Nat.reduceAdd, keepF]
            rw [hI2, List.append_nil]
            exact ⟨M5, Thin.refl _, hb5, hk4.trans hk5, by omega⟩
        clear hb5 hk5 hs5 hg5 M5 hb4 hk4 hs4 hg4 M4
        rintro _ M4 ⟨rfl, hb4, hk4, hs4⟩
        have hg4 : M4.get bs = some (.cells true s2 (secC x)) := hk4.2 _ _ _ hg3
        refine MW_mid (fun f M' => f = [(0, .slice (some ⟨ga, 0, none⟩) S.length ca), (3, .pointer (some ⟨p, 0, none⟩)), (4, .int .i64 (l : Nat)), (5, .pointer (some ⟨bs, 0, none⟩)), (6, .int .i64 (i : Nat))] ∧ BAt p M' p (t ++ rangeW i l ++ ([32] ++ nameW x.1) ++ idW x ++ numW x) ∧ Keeps p M3 M' ∧ M3.size ≤ M'.size) ?_ ?_
        · obtain ⟨I, hI⟩ : ∃ I, I = numW x := ⟨_, rfl⟩
          have hpre : (t ++ rangeW i l ++ ([32] ++ nameW x.1) ++ idW x).length = t.length + (rangeW i l).length + (1 + (nameW x.1).length) + (idW x).length := by simp only [List.length_append, List.length_cons, List.length_nil] <;> omega
          refine CW_seq (CW_region ?_)
          by_cases hsome : x.1 = 1 ∨ x.1 = 4
          · have hI2 : numW x = [32] ++ Lib.itoa x.2.2 := if_pos hsome
            have hI3 : (numW x).length = 1 + (Lib.itoa x.2.2).length := by rw [hI2]; simp only [List.length_append, List.length_cons, List.length_nil] <;> omega
            rcases hsome with h | h
            all_goals
              have q1 : (x.1 == 1) = decide (x.1 = 1) := by rw [Bool.eq_iff_iff]; simp
              have q4 : (x.1 == 4) = decide (x.1 = 4) := by rw [Bool.eq_iff_iff]; simp
              simp only [h] at q1 q4
              simp only [zZ, reduceIte, Nat.reduceLT, Int.reduceToNat, Int.reduceLE, Int.reduceEq, Int.reduceLT, Nat.reduceEqDiff, Nat.reduceAdd, zDk, hg4, c0, h, q1, q4, Int.reduceBEq, Int.reduceEq, decide_true, decide_false]
              refine CW_cond true (by rfl) (fun _ => CW_region ?_) (fun h => by cases h)
              simp only [zZ, reduceIte, Nat.reduceLT, Int.reduceToNat, Int.reduceLE, Int.reduceEq, Int.reduceLT, Nat.reduceEqDiff, Nat.reduceAdd, zDk, hg4, c2]
              refine ⟨by kernel_rfl, _, itoa_spec x.2.2 hx2.1 hx2.2 _, ?_⟩
              rintro _ M9 ⟨rfl, e9⟩; replace e9 := e9.symm; subst e9
              simp only [zZ, reduceIte, Nat.reduceLT, Int.reduceToNat, Int.reduceLE, Int.reduceEq, Int.reduceLT, Nat.reduceEqDiff, Nat.reduceAdd, zDk, zc32, cat_str, siz_str]
              refine ⟨by first | omega | (simp only [List.length_append, List.length_cons, List.length_nil] <;> omega), ?_⟩
              refine ⟨by kernel_rfl, _, ws_spec p p _ _ (str ([32] ++ Lib.itoa x.2.2)) hb4 (by show (t ++ rangeW i l ++ ([32] ++ nameW x.1) ++ idW x).length + ([32] ++ Lib.itoa x.2.2).length ≤ _; rw [hpre]; simp only [List.length_append, List.length_cons, List.length_nil] <;> omega), ?_⟩
              rintro _ M6 ⟨rfl, hb6, hk6, hs6⟩
              simp only [zZ, reduceIte, Nat.reduceLT, Int.reduceToNat, Int.reduceLE, Int.reduceEq, Int.reduceLT, Nat.reduceEqDiff, Nat.reduceAdd, zDk]
              refine ⟨[0, 3, 4, 5, 6], ?_⟩
              simp only [zZ, reduceIte, Nat.reduceLT, Int.reduceToNat, Int.reduceLE, Int.reduceEq, Int.reduceLT, Nat.reduceEqDiff, Nat.reduceAdd, keepF]
              refine ⟨M6, Thin.refl _, ?_, hk4.trans hk6, by omega⟩
              rw [hI2]
              exact hb6
          · have hI2 : numW x = [] := if_neg hsome
            have q1 : (x.1 == 1) = false := by rw [beq_eq_false_iff_ne]; intro h; exact hsome (by omega)
            have q4 : (x.1 == 4) = false := by rw [beq_eq_false_iff_ne]; intro h; exact hsome (by omega)
            simp only [zZ, reduceIte, Nat.reduceLT, Int.reduceToNat, Int.reduceLE, Int.reduceEq, Int.reduceLT, Nat.reduceEqDiff, Nat.reduceAdd, zDk, hg4, c0, q1, q4]
            refine CW_cond false (by rfl) (fun h => by cases h) (fun _ => CW_skip ?_)
            refine ⟨[0, 3, 4, 5, 6], ?_⟩
            simp only [zZ, reduceIte, Nat.reduceLT, Int.reduceToNat, Int.reduceLE, Int.reduceEq, Int.reduceLT, Nat.reduceEqDiff, Nat.reduceAdd, keepF]
            rw [hI2, List.append_nil]
            exact ⟨M4, Thin.refl _, hb4, hk4, by omega⟩
        clear hb4 hk4 hs4 hg4 M4
        rintro _ M4 ⟨rfl, hb4, hk4, hs4⟩
        refine CW_region ?_
        simp only [zZ, reduceIte, Nat.reduceLT, Int.reduceToNat, Int.reduceLE, Int.reduceEq, Int.reduceLT, Nat.reduceEqDiff, Nat.reduceAdd, zDk]
        refine ⟨by kernel_rfl, _, ws_spec p p _ _ (str [10]) hb4 (by show (t ++ rangeW i l ++ ([32] ++ nameW x.1) ++ idW x ++ numW x).length + [(10 : UInt8)].length ≤ _; simp only [List.length_append, List.length_cons, List.length_nil] <;> omega), ?_⟩
        rintro _ M5 ⟨rfl, hb5, hk5, hs5⟩
        simp only [zZ, reduceIte, Nat.reduceLT, Int.reduceToNat, Int.reduceLE, Int.reduceEq, Int.reduceLT, Nat.reduceEqDiff, Nat.reduceAdd, zDk]
        refine CW_region ?_
        have w9 := ti l hlS
        simp only [zZ, reduceIte, Nat.reduceLT, Int.reduceToNat, Int.reduceLE, Int.reduceEq, Int.reduceLT, Nat.reduceEqDiff, Nat.reduceAdd, zDk, w9]
        refine ⟨[0, 3, 4], ?_⟩
        simp only [zZ, reduceIte, Nat.reduceLT, Int.reduceToNat, Int.reduceLE, Int.reduceEq, Int.reduceLT, Nat.reduceEqDiff, Nat.reduceAdd, keepF]
        refine ⟨M5, Thin.refl _, S.length - (l + 1), ⟨l + 1, t ++ sectLine x i l, rfl, rfl, hk3.trans (hk4.trans hk5), by omega, ?_, by rw [hTt, tv, List.append_assoc]⟩, by omega⟩
        have e1 : t ++ sectLine x i l = t ++ rangeW i l ++ ([32] ++ nameW x.1) ++ idW x ++ numW x ++ [10] := by unfold sectLine; simp only [List.append_assoc]
        rw [e1]
        exact hb5
    · have hend := of_decide_eq_false h
      have hnil : textV S i = [] := by rw [textV, dif_neg (by omega)]
      simp only [zZ, reduceIte, Nat.reduceLT, Int.reduceToNat, Int.reduceLE, Int.reduceEq, Int.reduceLT, Nat.reduceEqDiff, Nat.reduceAdd, zDk]
      refine CW_seq (CW_region ?_)
      simp only [zZ, reduceIte, Nat.reduceLT, Int.reduceToNat, Int.reduceLE, Int.reduceEq, Int.reduceLT, Nat.reduceEqDiff, Nat.reduceAdd, zDk]
      refine ⟨by kernel_rfl, _, bstr_spec p p M t hb, ?_⟩
      rintro _ M4 ⟨rfl, hk4⟩
      simp only [zZ, reduceIte, Nat.reduceLT, Int.reduceToNat, Int.reduceLE, Int.reduceEq, Int.reduceLT, Nat.reduceEqDiff, Nat.reduceAdd, zDk]
      refine CW_ret ?_
      simp only [zZ, reduceIte, Nat.reduceLT, Int.reduceToNat, Int.reduceLE, Int.reduceEq, Int.reduceLT, Nat.reduceEqDiff, Nat.reduceAdd, zDk, mEnd, sAnswer, sAnswer.sRes]
      refine ⟨M4, Thin.refl _, by rw [hTt, hnil, List.append_nil], ?_⟩
      exact Keeps.trans ⟨fun b y _ hy => hold0 b y hy, fun b s cs hy => hold0 b _ hy⟩ (hk.trans hk4)
end Go.Proofs.YtmnebimijlnlkaaGreatDoor
namespace Go.Proofs.YtmnebimijlnlkaaGreatDoor
open Go.RowKit Abs
theorem mk_SS (m : Mem) (n : Nat) (hn : n ≤ 1000000) : aMakeSlice Tryz.prog m 58 (.int .i64 (n : Nat)) (.int .i64 (n : Nat)) = some (.slice (some ⟨m.size, 0, none⟩) n n, m.push (.cells false 1 (List.replicate n (.string ⟨#[]⟩)))) := by
  have hz : Tryz.t9.zero = some (.string ⟨#[]⟩) := rfl
  have hb : Tryz.t9.bytes ≤ 100 := by decide
  have hs : Tryz.t9.size = 1 := rfl
  unfold aMakeSlice
  simp only [Tryz.underlying58, inf_Str, hz, hs]
  have hc : ((Tryz.t9.bytes : Nat) : Int) * ((n : Nat) : Int) ≤ 281474976710656 := by
    have : Tryz.t9.bytes * n ≤ 100 * 1000000 := Nat.mul_le_mul hb hn
    rw [← Int.natCast_mul]; omega
  rw [if_pos ⟨rfl, by decide, rfl, by omega, Int.le_refl _, hc, by omega⟩]
  simp only [Int.toNat_natCast, Nat.mul_one]
  rfl
theorem copy_SS {m : Mem} {b o dl dc b2 o2 n nc s2 : Nat} {r2 : Bool} {cs cs2 : List Value} (hb : m.get b = some (.cells false 1 cs)) (hb2 : m.get b2 = some (.cells r2 s2 cs2)) (h1 : o2 + min n dl ≤ cs2.length) (h2 : o + min n dl ≤ cs.length) :
    aCopy Tryz.prog m 58 58 (.slice (some ⟨b, o, none⟩) dl dc) (.slice (some ⟨b2, o2, none⟩) n nc) = some (.int .i64 (min n dl : Nat), m.set b (some (.cells false 1 (setL cs o ((cs2.drop o2).take (min n dl)))))) := by
  have hs : Tryz.t9.size = 1 := rfl
  unfold aCopy
  simp only [Tryz.underlying58, inf_Str, hs, hb, hb2, Nat.mul_one]
  rw [if_pos ⟨h1, h2⟩]
theorem sl_SS {get : Nat → Option Blk} {b len cap : Nat} {ro : Bool} {cs : List Value} (hb : get b = some (.cells ro 1 cs)) (l : Nat) (h1 : l ≤ len) :
    gSlice Tryz.prog get 58 (.slice (some ⟨b, 0, none⟩) len cap) (some (.int .i64 (l : Nat))) none = some (.slice (some ⟨b, l, none⟩) (len - l) (cap - l)) := by
  have hs : Tryz.t9.size = 1 := rfl
  have hc : (0 : Int) ≤ (l : Int) ∧ (l : Int) ≤ (len : Int) := by omega
  unfold gSlice aBound
  simp only [Tryz.underlying58, inf_Str, hs, hb, if_pos hc, if_true, Nat.mul_one, Nat.zero_add, Int.toNat_natCast]
theorem sl_SS2 {get : Nat → Option Blk} {b len cap : Nat} {ro : Bool} {cs : List Value} (hb : get b = some (.cells ro 1 cs)) (h : Nat) (h1 : h ≤ cap) :
    gSlice Tryz.prog get 58 (.slice (some ⟨b, 0, none⟩) len cap) none (some (.int .i64 (h : Nat))) = some (.slice (some ⟨b, 0, none⟩) h cap) := by
  have hs : Tryz.t9.size = 1 := rfl
  have hc : (0 : Int) ≤ (h : Int) ∧ (h : Int) ≤ (cap : Int) := by omega
  unfold gSlice aBound
  simp only [Tryz.underlying58, inf_Str, hs, hb, if_pos hc, if_true, Nat.mul_one, Nat.zero_add, Int.toNat_natCast, Nat.sub_zero]
theorem setL_mid : ∀ (a b c : List Value), b.length ≤ c.length → setL (a ++ c) a.length b = a ++ b ++ c.drop b.length
  | [], [], c, _ => by simp [setL]
  | a, x :: b, [], h => by simp at h
  | a, [], c, _ => by simp [setL]
  | a, x :: b, y :: c, h => by
    have ih := setL_mid (a ++ [x]) b c (by simpa using h)
    rw [setL]
    have e : (a ++ y :: c).set a.length x = (a ++ [x]) ++ c := by simp
    rw [e]
    simp only [List.length_append, List.length_cons, List.length_nil] at ih
    rw [ih]
    simp
set_option maxRecDepth 100000 in
set_option maxHeartbeats 2000000 in
theorem repeatS_spec (M : Mem) (b : Nat) (s : ByteArray) (n : Nat) (hn : 1 ≤ n) (hn2 : n ≤ 100000) (ro : Bool) (st : Nat) (hb : M.get b = some (.cells ro st [.string s])) :
    Abs.Spec Tryz.prog 22 [.slice (some ⟨b, 0, none⟩) 1 1, .int .i64 (n : Nat)] M fun u M' => u = .slice (some ⟨M.size, 0, none⟩) n n ∧ M' = M.push (.cells false 1 (List.replicate n (.string s))) := by
  refine Abs.Spec.walkM Tryz.func22 (by rfl) _ Tryz.results22 _ Tryz.ntmps22 (by simp) ?_
  intro hc hx k
  refine CW_seq (CW_region ?_)
  simp only [zZ, reduceIte, Nat.reduceLT, Int.reduceToNat, Int.reduceLE, Int.reduceEq, Int.reduceLT, Nat.reduceEqDiff, Nat.reduceAdd, zDk, pd_eql, pd_neq, pd_eql0, pd_neq0, Tryz.underlying121, Tryz.underlying80]
  refine CW_seq (CW_seq (CW_region ?_))
  simp only [zZ, reduceIte, Nat.reduceLT, Int.reduceToNat, Int.reduceLE, Int.reduceEq, Int.reduceLT, Nat.reduceEqDiff, Nat.reduceAdd, zDk, pd_eql, pd_neq, pd_eql0, pd_neq0, Tryz.underlying121, Tryz.underlying80]
  refine CW_cond (decide ((n : Int) < 0)) (by rfl) (fun h => absurd (of_decide_eq_true h) (by omega)) (fun _ => CW_skip ?_)
  simp only [zZ, reduceIte, Nat.reduceLT, Int.reduceToNat, Int.reduceLE, Int.reduceEq, Int.reduceLT, Nat.reduceEqDiff, Nat.reduceAdd, zDk, pd_eql, pd_neq, pd_eql0, pd_neq0, Tryz.underlying121, Tryz.underlying80]
  refine CW_seq (CW_region ?_)
  have w1 : IntKind.u64.wrap ((1 : Nat) : Int) = ((1 : Nat) : Int) := by decide
  have w2 : IntKind.u64.wrap (n : Int) = ((n : Nat) : Int) := by unfold IntKind.wrap; simp [IntKind.bits, IntKind.signed]; omega
  have hmul := fun m => mul_spec 1 n (by omega) (by omega) m
  rw [show 1 * n / 18446744073709551616 = 0 by omega, show 1 * n % 18446744073709551616 = n by omega] at hmul
  simp only [zZ, reduceIte, Nat.reduceLT, Int.reduceToNat, Int.reduceLE, Int.reduceEq, Int.reduceLT, Nat.reduceEqDiff, Nat.reduceAdd, zDk, pd_eql, pd_neq, pd_eql0, pd_neq0, Tryz.underlying121, Tryz.underlying80, w1, w2]
  refine ⟨by kernel_rfl, _, hmul _, ?_⟩
  rintro _ M9 ⟨rfl, e9⟩; replace e9 := e9.symm; subst e9
  have q1 : decide (((0 : Nat) : Int) > 0) = false := rfl
  have q2 : decide ((n : Int) > 9223372036854775807) = false := decide_eq_false (by omega)
  simp only [zZ, reduceIte, Nat.reduceLT, Int.reduceToNat, Int.reduceLE, Int.reduceEq, Int.reduceLT, Nat.reduceEqDiff, Nat.reduceAdd, zDk, pd_eql, pd_neq, pd_eql0, pd_neq0, Tryz.underlying121, Tryz.underlying80]
  refine CW_seq (CW_seq (CW_region ?_))
  simp only [zZ, reduceIte, Nat.reduceLT, Int.reduceToNat, Int.reduceLE, Int.reduceEq, Int.reduceLT, Nat.reduceEqDiff, Nat.reduceAdd, zDk, pd_eql, pd_neq, pd_eql0, pd_neq0, Tryz.underlying121, Tryz.underlying80, q1, q2]
  refine CW_cond false (by rfl) (fun h => by cases h) (fun _ => CW_skip ?_)
  simp only [zZ, reduceIte, Nat.reduceLT, Int.reduceToNat, Int.reduceLE, Int.reduceEq, Int.reduceLT, Nat.reduceEqDiff, Nat.reduceAdd, zDk, pd_eql, pd_neq, pd_eql0, pd_neq0, Tryz.underlying121, Tryz.underlying80]
  have w3 : IntKind.i64.wrap ((n : Nat) : Int) = ((n : Nat) : Int) := wri (by omega) (by omega)
  refine CW_seq (CW_region ?_)
  simp only [zZ, reduceIte, Nat.reduceLT, Int.reduceToNat, Int.reduceLE, Int.reduceEq, Int.reduceLT, Nat.reduceEqDiff, Nat.reduceAdd, zDk, pd_eql, pd_neq, pd_eql0, pd_neq0, Tryz.underlying121, Tryz.underlying80, w3, mk_SS M n (by omega)]
  obtain ⟨M1, hM1⟩ : ∃ M1, M1 = M.push (.cells false 1 (List.replicate n (.string ⟨#[]⟩))) := ⟨_, rfl⟩
  obtain ⟨g, hg⟩ : ∃ g, g = M.size := ⟨_, rfl⟩
  have hg1 : M1.get g = some (.cells false 1 (List.replicate n (.string ⟨#[]⟩))) := by rw [hM1, hg, Mem.get_push_new]
  have hb1 : M1.get b = some (.cells ro st [.string s]) := by rw [hM1, Mem.get_push_old (get_live hb)]; exact hb
  rw [← hM1, ← hg]
  have hcp := copy_SS (o := 0) (dl := n) (dc := n) (o2 := 0) (n := 1) (nc := 1) hg1 hb1 (by simp; omega) (by simp; omega)
  rw [show min 1 n = 1 by omega] at hcp
  refine CW_seq (CW_region ?_)
  simp only [zZ, reduceIte, Nat.reduceLT, Int.reduceToNat, Int.reduceLE, Int.reduceEq, Int.reduceLT, Nat.reduceEqDiff, Nat.reduceAdd, zDk, pd_eql, pd_neq, pd_eql0, pd_neq0, Tryz.underlying121, Tryz.underlying80, hcp]
  refine CW_seq (CW_block (MW_loop (fun j f M' => ∃ c : Nat, 1 ≤ c ∧ c ≤ n ∧ j = n - c ∧ f = [(7, .slice (some ⟨g, 0, none⟩) n n), (8, .int .i64 (c : Nat))] ∧
    M' = M.push (.cells false 1 (List.replicate c (.string s) ++ List.replicate (n - c) (.string ⟨#[]⟩)))) (n - 1) ?_ ?_))
  · refine ⟨[7, 8], ?_⟩
    simp only [zZ, reduceIte, Nat.reduceLT, Int.reduceToNat, Int.reduceLE, Int.reduceEq, Int.reduceLT, Nat.reduceEqDiff, Nat.reduceAdd, keepF]
    refine ⟨_, Thin.refl _, 1, Nat.le_refl _, hn, rfl, rfl, ?_⟩
    rw [hM1, hg, push_set]
    congr 2
    obtain ⟨k, rfl⟩ : ∃ k, n = k + 1 := ⟨n - 1, by omega⟩
    rfl
  · rintro j f M' ⟨c, hc1, hc2, rfl, rfl, hM'⟩
    refine CW_seq (CW_seq (CW_region ?_))
    simp only [zZ, reduceIte, Nat.reduceLT, Int.reduceToNat, Int.reduceLE, Int.reduceEq, Int.reduceLT, Nat.reduceEqDiff, Nat.reduceAdd, zDk, pd_eql, pd_neq, pd_eql0, pd_neq0, Tryz.underlying121, Tryz.underlying80]
    refine CW_cond (decide ((c : Int) < (n : Int))) (by rfl) (fun h => CW_skip ?_) (fun h => CW_exit ?_)
    · have h := of_decide_eq_true h
      simp only [zZ, reduceIte, Nat.reduceLT, Int.reduceToNat, Int.reduceLE, Int.reduceEq, Int.reduceLT, Nat.reduceEqDiff, Nat.reduceAdd]
      refine CW_block (CW_draw2 hmix 7 (by kernel_rfl) ?_)
      have hg' : M'.get g = some (.cells false 1 (List.replicate c (.string s) ++ List.replicate (n - c) (.string ⟨#[]⟩))) := by rw [hM', hg, Mem.get_push_new]
      have hcp2 := copy_SS (o := c) (dl := n - c) (dc := n - c) (o2 := 0) (n := c) (nc := n) hg' hg' (by simp; omega) (by simp; omega)
      have w5 : IntKind.i64.wrap ((c : Int) + ((min c (n - c) : Nat) : Int)) = ((c + min c (n - c) : Nat) : Int) := by rw [wri (by omega) (by omega)]; omega
      simp only [zZ, reduceIte, Nat.reduceLT, Int.reduceToNat, Int.reduceLE, Int.reduceEq, Int.reduceLT, Nat.reduceEqDiff, Nat.reduceAdd, zDk, pd_eql, pd_neq, pd_eql0, pd_neq0, Tryz.underlying121, Tryz.underlying80, sl_SS hg' c hc2, sl_SS2 hg' c hc2, hcp2, w5]
      refine ⟨[7, 8], ?_⟩
      simp only [zZ, reduceIte, Nat.reduceLT, Int.reduceToNat, Int.reduceLE, Int.reduceEq, Int.reduceLT, Nat.reduceEqDiff, Nat.reduceAdd, keepF]
      refine ⟨_, Thin.refl _, n - (c + min c (n - c)), ⟨c + min c (n - c), by omega, by omega, rfl, rfl, ?_⟩, by omega⟩
      rw [hM', hg, push_set]
      congr 2
      have e1 : (List.replicate c (Value.string s) ++ List.replicate (n - c) (Value.string ⟨#[]⟩)).take (min c (n - c)) = List.replicate (min c (n - c)) (Value.string s) := by
        rw [List.take_append_of_le_length (by simp; omega), List.take_replicate]
        congr 1; omega
      have e2 := setL_mid (List.replicate c (Value.string s)) (List.replicate (min c (n - c)) (Value.string s)) (List.replicate (n - c) (Value.string ⟨#[]⟩)) (by simp; omega)
      rw [List.length_replicate] at e2
      rw [e1, e2, List.replicate_append_replicate, List.length_replicate, List.drop_replicate]
      congr 2
      omega
    · have h := of_decide_eq_false h
      have hcn : c = n := by omega
      subst hcn
      simp only [zZ, reduceIte, Nat.reduceLT, Int.reduceToNat, Int.reduceLE, Int.reduceEq, Int.reduceLT, Nat.reduceEqDiff, Nat.reduceAdd]
      refine CW_seq (CW_region ?_)
      simp only [zZ, reduceIte, Nat.reduceLT, Int.reduceToNat, Int.reduceLE, Int.reduceEq, Int.reduceLT, Nat.reduceEqDiff, Nat.reduceAdd, zDk, pd_eql, pd_neq, pd_eql0, pd_neq0, Tryz.underlying121, Tryz.underlying80]
      refine CW_ret ?_
      simp only [zZ, reduceIte, Nat.reduceLT, Int.reduceToNat, Int.reduceLE, Int.reduceEq, Int.reduceLT, Nat.reduceEqDiff, Nat.reduceAdd, zDk, pd_eql, pd_neq, pd_eql0, pd_neq0, Tryz.underlying121, Tryz.underlying80, mEnd, sAnswer, sAnswer.sRes]
      refine ⟨M', Thin.refl _, ?_⟩
      rw [hM']
      simp
def zeroS : List UInt8 := List.replicate 256 0
def newDsk (n : Nat) : Dsk := ⟨List.replicate n zeroS, [], 0, -1, false⟩
theorem newDsk_ok (n : Nat) (h1 : 1 ≤ n) (h2 : n ≤ 1024) : (newDsk n).Ok :=
  ⟨by simpa [newDsk] using h2, by simp [newDsk]; omega, fun s hs => by simp only [newDsk, List.mem_replicate] at hs; rw [hs.2]; exact List.length_replicate, by simp [newDsk], by simp [newDsk], fun x hx => by simp [newDsk] at hx, fun x hx => by simp [newDsk] at hx, by simp [newDsk], trivial⟩
set_option maxRecDepth 100000 in
set_option maxHeartbeats 2000000 in
theorem new_spec (M : Mem) (n : Nat) (h1 : 1 ≤ n) (h2 : n ≤ 1024) :
    Abs.Spec Tryz.prog 9 [.int .i64 (n : Nat)] M fun u M' => ∃ p q g, u = .tuple #[dp p, .int .i64 0] ∧ DskAt M' p q g (newDsk n) ∧ M.size ≤ p ∧ M.size ≤ q ∧ M.size ≤ g ∧ Only [] M M' ∧ M.size ≤ M'.size := by
  refine Abs.Spec.walkM Tryz.func9 (by rfl) _ Tryz.results9 _ Tryz.ntmps9 (by simp) ?_
  intro hc hx k
  have q1 : decide ((n : Int) < 1) = false := decide_eq_false (by omega)
  have q2 : decide ((n : Int) > 1024) = false := decide_eq_false (by omega)
  refine CW_seq (CW_region ?_)
  simp only [zZ, reduceIte, Nat.reduceLT, Int.reduceToNat, Int.reduceLE, Int.reduceEq, Int.reduceLT, Nat.reduceEqDiff, Nat.reduceAdd, zDk, pd_eql, pd_neq, pd_eql0, pd_neq0, Tryz.underlying121, Tryz.underlying80]
  refine CW_seq (CW_seq (CW_region ?_))
  simp only [zZ, reduceIte, Nat.reduceLT, Int.reduceToNat, Int.reduceLE, Int.reduceEq, Int.reduceLT, Nat.reduceEqDiff, Nat.reduceAdd, zDk, pd_eql, pd_neq, pd_eql0, pd_neq0, Tryz.underlying121, Tryz.underlying80, q1, q2]
  refine CW_cond false (by rfl) (fun h => by cases h) (fun _ => CW_skip ?_)
  simp only [zZ, reduceIte, Nat.reduceLT, Int.reduceToNat, Int.reduceLE, Int.reduceEq, Int.reduceLT, Nat.reduceEqDiff, Nat.reduceAdd, zDk, pd_eql, pd_neq, pd_eql0, pd_neq0, Tryz.underlying121, Tryz.underlying80]
  refine CW_seq (CW_region ?_)
  simp only [zZ, reduceIte, Nat.reduceLT, Int.reduceToNat, Int.reduceLE, Int.reduceEq, Int.reduceLT, Nat.reduceEqDiff, Nat.reduceAdd, zDk, pd_eql, pd_neq, pd_eql0, pd_neq0, Tryz.underlying121, Tryz.underlying80]
  refine ⟨by kernel_rfl, _, repeat_spec (str [0]) 256 (by omega) (by show 1 * 256 ≤ _; omega) _, ?_⟩
  rintro _ M9 ⟨rfl, e9⟩; replace e9 := e9.symm; subst e9
  have hrep : str (Lib.repeatL (str [0]).data.toList 256) = str zeroS := by
    show str (Lib.repeatL [0] 256) = _
    rw [rep_zero]; rfl
  rw [hrep]
  simp only [zZ, reduceIte, Nat.reduceLT, Int.reduceToNat, Int.reduceLE, Int.reduceEq, Int.reduceLT, Nat.reduceEqDiff, Nat.reduceAdd, zDk, pd_eql, pd_neq, pd_eql0, pd_neq0, Tryz.underlying121, Tryz.underlying80]
  have hbs : nBuildSlice Tryz.prog 58 1 [(0, .string (str zeroS))] = some (.cells false 1 [.string (str zeroS)]) := by kernel_rfl
  refine CW_seq (CW_region ?_)
  simp only [zZ, reduceIte, Nat.reduceLT, Int.reduceToNat, Int.reduceLE, Int.reduceEq, Int.reduceLT, Nat.reduceEqDiff, Nat.reduceAdd, zDk, pd_eql, pd_neq, pd_eql0, pd_neq0, Tryz.underlying121, Tryz.underlying80, hbs]
  refine ⟨by kernel_rfl, _, repeatS_spec (M.push (.cells false 1 [.string (str zeroS)])) M.size (str zeroS) n h1 (by omega) false 1 (Mem.get_push_new _ _), ?_⟩
  rintro _ M2 ⟨rfl, hM2⟩
  have hs2 : M2.size = M.size + 2 := by rw [hM2]; simp only [Mem.size_push]
  have hold2 : ∀ b x, M.get b = some x → M2.get b = some x := fun b x hb => by
    have := get_live hb
    rw [hM2, Mem.get_push_old (by rw [Mem.size_push]; omega), Mem.get_push_old this]; exact hb
  have hg2 : M2.get (M.size + 1) = some (.cells false 1 (List.replicate n (.string (str zeroS)))) := by
    have := Mem.get_push_new (M.push (.cells false 1 [.string (str zeroS)])) (.cells false 1 (List.replicate n (.string (str zeroS))))
    rw [Mem.size_push] at this
    rw [hM2]; exact this
  have hbx : nBox Tryz.prog 63 (.agg #[.slice (some ⟨M.size + 1, 0, none⟩) n n, .map (some M2.size), .int .i64 (-1), .bool false]) = some (.cells false (aStride Tryz.prog 63) [.slice (some ⟨M.size + 1, 0, none⟩) n n, .map (some M2.size), .int .i64 (-1), .bool false]) := bx_Dsk _ rfl
  generalize aStride Tryz.prog 63 = s1 at hbx
  have hbd : aBuild Tryz.prog 63 [(0, .slice (some ⟨M.size + 1, 0, none⟩) n n), (1, .map (some M2.size)), (2, .int .i64 (-1))] = some (.agg #[.slice (some ⟨M.size + 1, 0, none⟩) n n, .map (some M2.size), .int .i64 (-1), .bool false]) := by kernel_rfl
  simp only [zZ, reduceIte, Nat.reduceLT, Int.reduceToNat, Int.reduceLE, Int.reduceEq, Int.reduceLT, Nat.reduceEqDiff, Nat.reduceAdd, zDk, pd_eql, pd_neq, pd_eql0, pd_neq0, Tryz.underlying121, Tryz.underlying80, Mem.size_push, hbd, hbx]
  refine CW_ret ?_
  simp only [zZ, reduceIte, Nat.reduceLT, Int.reduceToNat, Int.reduceLE, Int.reduceEq, Int.reduceLT, Nat.reduceEqDiff, Nat.reduceAdd, zDk, pd_eql, pd_neq, pd_eql0, pd_neq0, Tryz.underlying121, Tryz.underlying80, mEnd, sAnswer, sAnswer.sRes]
  refine ⟨_, Thin.refl _, M2.size + 1, M2.size, M.size + 1, rfl, ⟨newDsk_ok n h1 h2, ⟨s1, ?_⟩, ?_, ?_, by omega, by omega, by omega⟩, by omega, by omega, by omega, fun b x _ hb => ?_, by simp only [Mem.size_push]; omega⟩
  · have := Mem.get_push_new (M2.push (.kv false [] 0)) (.cells false s1 [.slice (some ⟨M.size + 1, 0, none⟩) n n, .map (some M2.size), .int .i64 (-1), .bool false])
    rw [Mem.size_push] at this
    rw [this]
    simp [dskC, newDsk]
  · rw [Mem.get_push_old (by rw [Mem.size_push]; omega), Mem.get_push_new]; rfl
  · rw [Mem.get_push_old (by rw [Mem.size_push]; omega), Mem.get_push_old (by omega), hg2]
    simp [newDsk]
  · have := get_live hb
    rw [Mem.get_push_old (by rw [Mem.size_push]; omega), Mem.get_push_old (by omega)]
    exact hold2 b x hb
end Go.Proofs.YtmnebimijlnlkaaGreatDoor
namespace Go.Proofs.YtmnebimijlnlkaaGreatDoor
open Go.RowKit Abs
theorem lastI_step {S : List Sec} {x : Sec} {i : Nat} (h : goesOn S x i = true) : lastI S x i = lastI S x (i + 1) := by
  conv => lhs; rw [lastI, dif_pos h]
theorem lastI_stop {S : List Sec} {x : Sec} {i : Nat} (h : goesOn S x i = false) : lastI S x i = i := by
  rw [lastI, dif_neg (by rw [h]; simp)]
theorem textV_step {S : List Sec} {x : Sec} {i l : Nat} (h : S[i]? = some x) (hl : lastI S x i = l) : textV S i = sectLine x i l ++ textV S (l + 1) := by
  obtain ⟨h1, h2⟩ := List.getElem?_eq_some_iff.1 h
  rw [textV, dif_pos h1, h2, hl]
theorem textV_end {S : List Sec} {i : Nat} (h : S.length ≤ i) : textV S i = [] := by
  rw [textV, dif_neg (by omega)]
def woken : List Sec := (1, 0, 1) :: List.replicate 19 (0, 0, 0)
theorem woken_cells : secsV 1 20 = woken.flatMap secC := by kernel_rfl
theorem woken_ok : ∀ x ∈ woken, isI64' x.2.1 ∧ isI64' x.2.2 := by
  unfold isI64'
  decide +kernel
theorem woken_text : textV woken 0 = [48, 32, 101, 112, 111, 99, 104, 32, 49, 10, 49, 45, 49, 57, 32, 98, 108, 97, 110, 107, 10] := by
  have h0 : lastI woken (1, 0, 1) 0 = 0 := lastI_stop (by decide +kernel)
  have h1 : lastI woken (0, 0, 0) 1 = 19 := by
    have st : ∀ k : Fin 18, goesOn woken (0, 0, 0) (k.val + 1) = true := by decide +kernel
    have go : ∀ k, k ≤ 18 → lastI woken (0, 0, 0) 1 = lastI woken (0, 0, 0) (k + 1) := by
      intro k
      induction k with
      | zero => intro _; rfl
      | succ k ih => intro hk; rw [ih (by omega), lastI_step (st ⟨k, by omega⟩)]
    rw [go 18 (by omega), lastI_stop (by decide +kernel)]
  rw [textV_step (x := (1, 0, 1)) rfl h0, textV_step (x := (0, 0, 0)) rfl h1, textV_end (by decide)]
  have i0 : Lib.itoa ((0 : Nat) : Int) = [48] := by decide +kernel
  have i1 : Lib.itoa ((1 : Nat) : Int) = [49] := by decide +kernel
  have i2 : Lib.itoa (1 : Int) = [49] := by decide +kernel
  have i19 : Lib.itoa ((19 : Nat) : Int) = [49, 57] := by decide +kernel
  unfold sectLine rangeW idW numW
  simp only [i0, i1, i2, i19]
  decide +kernel
theorem zero_sector (n i : Nat) (hi : i < n) : (newDsk n).sector i = zeroS := by
  unfold Dsk.sector newDsk
  simp only [lastOf, List.find?_nil, Option.map_none, Option.getD_none, List.getElem?_replicate, if_pos hi, Option.getD_some]
theorem last_zero : lastV zeroS = (0, 0) := by decide +kernel
theorem newDsk_blank (n : Nat) (h1 : 1 ≤ n) (h2 : n ≤ 1024) : BlankD (newDsk n) 0 := by
  have hlen : (newDsk n).old.length = n := by simp [newDsk]
  refine ⟨newDsk_ok n h1 h2, rfl, fun i _ hi => zero_sector n i (by omega), ?_, by decide⟩
  have hm : (newDsk n).may 0 = 0 := by
    unfold Dsk.may
    rw [if_neg (by simp [newDsk]), if_neg (by omega)]
  unfold Dsk.lastE
  rw [if_pos hm, zero_sector n _ (by show 0 < n; omega), last_zero]
def opened (n : Nat) : Dsk := ⟨filled (epochText 1) :: List.replicate (n - 1) zeroS, [], 1, -1, false⟩
theorem nextE_new (n : Nat) (h1 : 1 ≤ n) (h2 : n ≤ 1024) : (newDsk n).nextE 0 = (opened n, 1, 0) := by
  have hb := newDsk_blank n h1 h2
  have hlen : (newDsk n).old.length = n := by simp [newDsk]
  have hw : (newDsk n).write 0 (epochText 1) = (((newDsk n).burnt.put 0 (filled (epochText 1))), 0) := by
    have hl : (epochText 1).length = 8 := by decide +kernel
    unfold Dsk.write
    rw [if_neg (by rw [show (newDsk n).may 0 = 0 from hb.may (i := 0) (by omega)]; simp), if_neg (by omega), if_neg (by show ¬ ((-1 : Int) = 0); decide)]
    rfl
  obtain ⟨D, hD⟩ : ∃ D, D = (newDsk n).burnt.put 0 (filled (epochText 1)) := ⟨_, rfl⟩
  have hD2 : D = ⟨List.replicate n zeroS, [(0, filled (epochText 1), 0)], 1, -1, false⟩ := by rw [hD]; rfl
  have hs : D.sync = (opened n, 0) := by
    unfold Dsk.sync
    have hm : D.may 0 = 0 := by
      rw [hD2]
      unfold Dsk.may
      rw [if_neg (by simp), if_neg (by simp; omega)]
    have hbu : D.burnt = D := by rw [hD2]; rfl
    rw [if_neg (by rw [hm]; simp), if_neg (by rw [hD2]; show ¬ ((-1 : Int) = 0); decide), hbu, hD2]
    unfold Dsk.synced opened
    simp only [Prod.mk.injEq, Dsk.mk.injEq, and_true]
    obtain ⟨k, rfl⟩ : ∃ k, n = k + 1 := ⟨n - 1, by omega⟩
    rw [List.replicate_succ, List.mapIdx_cons, Nat.add_sub_cancel]
    congr 1
    apply List.ext_getElem?
    intro i
    rw [List.getElem?_mapIdx, List.getElem?_replicate]
    split
    · simp [lastOf]
    · rfl
  unfold Dsk.nextE
  rw [hb.epoch]
  simp only [show ((0 : Int) + 1) = 1 from rfl, hw, ← hD, hs, ne_eq, not_true_eq_false, if_false]
  rw [if_neg (by decide)]
theorem opened_blank (n : Nat) (h1 : 1 ≤ n) (hok : (opened n).Ok) : BlankD (opened n) 1 := by
  have hlen : (opened n).old.length = n := by simp [opened]; omega
  refine ⟨hok, rfl, fun i h0 hi => ?_, ?_, by decide⟩
  · rw [hlen] at hi
    obtain ⟨k, rfl⟩ : ∃ k, i = k + 1 := ⟨i - 1, by omega⟩
    unfold Dsk.sector opened
    simp only [lastOf, List.find?_nil, Option.map_none, Option.getD_none, List.getElem?_cons_succ, List.getElem?_replicate]
    rw [if_pos (by omega)]
    rfl
  · have hm : (opened n).may 0 = 0 := by
      unfold Dsk.may
      rw [if_neg (by simp [opened]), if_neg (by omega)]
    unfold Dsk.lastE
    rw [if_pos hm]
    have : (opened n).sector (0 : Int).toNat = filled (epochText 1) := rfl
    rw [this]
    decide +kernel
set_option maxRecDepth 100000 in
set_option maxHeartbeats 2000000 in
theorem awake43_spec (M : Mem) : Abs.Spec Tryz.prog 6 [] M fun u _ => u = .bool true := by
  refine Abs.Spec.walkM Tryz.func6 (by rfl) _ Tryz.results6 _ Tryz.ntmps6 (by simp) ?_
  intro hc hx k
  have q0 : ((0 : Int) == 0) = true := rfl
  have q1 : ((0 : Int) != 0) = false := rfl
  refine CW_seq (CW_region ?_)
  simp only [zZ, reduceIte, Nat.reduceLT, Int.reduceToNat, Int.reduceLE, Int.reduceEq, Int.reduceLT, Nat.reduceEqDiff, Nat.reduceAdd, zDk, pd_eql, pd_neq, pd_eql0, pd_neq0]
  refine CW_seq (CW_region ?_)
  simp only [zZ, reduceIte, Nat.reduceLT, Int.reduceToNat, Int.reduceLE, Int.reduceEq, Int.reduceLT, Nat.reduceEqDiff, Nat.reduceAdd, zDk, pd_eql, pd_neq, pd_eql0, pd_neq0]
  refine ⟨by kernel_rfl, _, new_spec M 20 (by decide) (by decide), ?_⟩
  rintro _ M1 ⟨p, q, g, rfl, hd1, hp, hq, hg, ho1, hs1⟩
  simp only [zZ, reduceIte, Nat.reduceLT, Int.reduceToNat, Int.reduceLE, Int.reduceEq, Int.reduceLT, Nat.reduceEqDiff, Nat.reduceAdd, zDk, pd_eql, pd_neq, pd_eql0, pd_neq0, dp]
  refine CW_seq (CW_seq (CW_region ?_))
  simp only [zZ, reduceIte, Nat.reduceLT, Int.reduceToNat, Int.reduceLE, Int.reduceEq, Int.reduceLT, Nat.reduceEqDiff, Nat.reduceAdd, zDk, pd_eql, pd_neq, pd_eql0, pd_neq0, q1]
  refine CW_cond false (by rfl) (fun h => by cases h) (fun _ => CW_skip ?_)
  simp only [zZ, reduceIte, Nat.reduceLT, Int.reduceToNat, Int.reduceLE, Int.reduceEq, Int.reduceLT, Nat.reduceEqDiff, Nat.reduceAdd, zDk, pd_eql, pd_neq, pd_eql0, pd_neq0]
  refine CW_seq (CW_region ?_)
  simp only [zZ, reduceIte, Nat.reduceLT, Int.reduceToNat, Int.reduceLE, Int.reduceEq, Int.reduceLT, Nat.reduceEqDiff, Nat.reduceAdd, zDk, pd_eql, pd_neq, pd_eql0, pd_neq0]
  have hn := nextE_new 20 (by decide) (by decide)
  refine ⟨by kernel_rfl, _, open_blank M1 p q g (newDsk 20) 0 (newDsk_blank 20 (by decide) (by decide)) hd1 ⟨#[115]⟩ (by decide) (by decide) (by rw [hn]), ?_⟩
  rw [hn]
  rintro _ M2 ⟨dep, rfl, _, _, hd2, ho2, hs2⟩
  simp only [zZ, reduceIte, Nat.reduceLT, Int.reduceToNat, Int.reduceLE, Int.reduceEq, Int.reduceLT, Nat.reduceEqDiff, Nat.reduceAdd, zDk, pd_eql, pd_neq, pd_eql0, pd_neq0, dp]
  refine CW_seq (CW_region ?_)
  simp only [zZ, reduceIte, Nat.reduceLT, Int.reduceToNat, Int.reduceLE, Int.reduceEq, Int.reduceLT, Nat.reduceEqDiff, Nat.reduceAdd, zDk, pd_eql, pd_neq, pd_eql0, pd_neq0]
  refine ⟨by kernel_rfl, _, scan_blank M2 p q g (opened 20) 1 (opened_blank 20 (by decide) hd2.ok) hd2 ⟨#[115]⟩ (by decide) (by decide), ?_⟩
  rintro _ M3 ⟨gl, rfl, hgl, _, ho3, hs3⟩
  have hlen : (opened 20).old.length = 20 := by kernel_rfl
  rw [hlen] at hgl ⊢
  have q2 : (((0 : Nat) : Int) == 0) = true := rfl
  simp only [zZ, reduceIte, Nat.reduceLT, Int.reduceToNat, Int.reduceLE, Int.reduceEq, Int.reduceLT, Nat.reduceEqDiff, Nat.reduceAdd, zDk, pd_eql, pd_neq, pd_eql0, pd_neq0]
  have hT := text_walk woken (some ⟨gl, 0, none⟩) 20 M3 (.inr ⟨gl, false, rfl, by rw [← woken_cells]; exact hgl⟩) woken_ok (by decide) (by rw [woken_text]; decide)
  rw [woken_text] at hT
  refine CW_seq (CW_region ?_)
  simp only [zZ, reduceIte, Nat.reduceLT, Int.reduceToNat, Int.reduceLE, Int.reduceEq, Int.reduceLT, Nat.reduceEqDiff, Nat.reduceAdd, zDk, pd_eql, pd_neq, pd_eql0, pd_neq0, q0, q2]
  refine ⟨by kernel_rfl, _, hT, ?_⟩
  rintro _ M4 ⟨rfl, hk4⟩
  simp only [zZ, reduceIte, Nat.reduceLT, Int.reduceToNat, Int.reduceLE, Int.reduceEq, Int.reduceLT, Nat.reduceEqDiff, Nat.reduceAdd, zDk, pd_eql, pd_neq, pd_eql0, pd_neq0]
  refine CW_ret ?_
  simp only [zZ, reduceIte, Nat.reduceLT, Int.reduceToNat, Int.reduceLE, Int.reduceEq, Int.reduceLT, Nat.reduceEqDiff, Nat.reduceAdd, zDk, pd_eql, pd_neq, pd_eql0, pd_neq0, mEnd, sAnswer, sAnswer.sRes]
  exact ⟨M4, Thin.refl _, rfl⟩
end Go.Proofs.YtmnebimijlnlkaaGreatDoor
namespace Go.Proofs.YtmnebimijlnlkaaGreatDoor
open Go.RowKit Abs
theorem slice_to (get : Nat → Option Blk) (s : ByteArray) (k : Nat) (h : k ≤ s.size) : gSlice Tryz.prog get 9 (.string s) none (some (.int .i64 (k : Int))) = some (.string (str (s.data.toList.take k))) := by
  have hbs : bsize s = s.size := rfl
  unfold gSlice aBound
  simp only [Tryz.underlying9, hbs]
  rw [if_pos (by omega)]
  rfl
end Go.Proofs.YtmnebimijlnlkaaGreatDoor
namespace Go.Proofs.YtmnebimijlnlkaaGreatDoor
open Go.RowKit Abs
theorem i64_and31 (n : Int) : bits .and .i64 n 31 = n % 32 := by
  have h127 : (BitVec.ofInt 64 31).toNat = 2 ^ 5 - 1 := by decide
  have key : (BitVec.ofInt 64 n &&& BitVec.ofInt 64 31).toNat = (n % ((2 ^ 64 : Nat) : Int)).toNat % 2 ^ 5 := by
    rw [BitVec.toNat_and, BitVec.toNat_ofInt, h127, Nat.and_two_pow_sub_one_eq_mod]
  show IntKind.i64.wrap ((BitVec.ofInt 64 n &&& BitVec.ofInt 64 31).toNat : Nat) = n % 32
  rw [key, IntKind.wrap_i64]
  omega
theorem neBB (cx a b : Bool) : aBin Tryz.prog .neq 4 cx (.bool a) (.bool b) = some (.bool (a != b)) := by cases cx <;> cases a <;> cases b <;> kernel_rfl
set_option maxRecDepth 100000 in
set_option maxHeartbeats 4000000 in
theorem scrub_small (n : Int) (s : ByteArray) (M : Mem) : Abs.Spec Tryz.prog 4 [.int .i64 n, .string s] M fun u _ => u = .bool true := by
  refine Abs.Spec.walkM Tryz.func4 (by rfl) _ Tryz.results4 _ Tryz.ntmps4 (by simp) ?_
  intro hc hx k
  have q0 : ((0 : Int) == 0) = true := rfl
  have q1 : ((0 : Int) != 0) = false := rfl
  refine CW_seq (CW_region ?_)
  simp only [zZ, reduceIte, Nat.reduceLT, Int.reduceToNat, Int.reduceLE, Int.reduceEq, Int.reduceLT, Nat.reduceEqDiff, Nat.reduceAdd, zDk, pd_eql, pd_neq, pd_eql0, pd_neq0]
  refine MW_mid (fun f M' => ∃ t : ByteArray, t.size ≤ 100 ∧ f = [(0, .int .i64 n), (1, .string t)] ∧ M' = M) ?_ ?_
  · refine CW_seq (CW_region ?_)
    simp only [zZ, reduceIte, Nat.reduceLT, Int.reduceToNat, Int.reduceLE, Int.reduceEq, Int.reduceLT, Nat.reduceEqDiff, Nat.reduceAdd, zDk, pd_eql, pd_neq, pd_eql0, pd_neq0]
    refine CW_cond (decide ((100 : Int) < (s.size : Int))) (by rfl) (fun h => CW_region ?_) (fun h => CW_skip ?_)
    · have h := of_decide_eq_true h
      have hsl : ∀ get, gSlice Tryz.prog get 9 (.string s) none (some (.int .i64 100)) = some (.string (str (s.data.toList.take 100))) := fun get => slice_to get s 100 (by omega)
      simp only [zZ, reduceIte, Nat.reduceLT, Int.reduceToNat, Int.reduceLE, Int.reduceEq, Int.reduceLT, Nat.reduceEqDiff, Nat.reduceAdd, zDk, pd_eql, pd_neq, pd_eql0, pd_neq0, hsl]
      refine ⟨[0, 1], ?_⟩
      simp only [zZ, reduceIte, Nat.reduceLT, Int.reduceToNat, Int.reduceLE, Int.reduceEq, Int.reduceLT, Nat.reduceEqDiff, Nat.reduceAdd, keepF]
      exact ⟨M, Thin.refl _, str (s.data.toList.take 100), by show (s.data.toList.take 100).length ≤ 100; rw [List.length_take]; omega, rfl, rfl⟩
    · have h := of_decide_eq_false h
      refine ⟨[0, 1], ?_⟩
      simp only [zZ, reduceIte, Nat.reduceLT, Int.reduceToNat, Int.reduceLE, Int.reduceEq, Int.reduceLT, Nat.reduceEqDiff, Nat.reduceAdd, keepF]
      exact ⟨M, Thin.refl _, s, by omega, rfl, rfl⟩
  rintro _ M9 ⟨t, ht, rfl, e9⟩; replace e9 := e9.symm; subst e9
  obtain ⟨N, hN1, hN2, hN⟩ : ∃ N : Nat, 1 ≤ N ∧ N ≤ 32 ∧ IntKind.i64.wrap (1 + bits BinOp.and IntKind.i64 n 31) = ((N : Nat) : Int) := by
    refine ⟨(n % 32).toNat + 1, by omega, by omega, ?_⟩
    rw [i64_and31, wri (by omega) (by omega)]
    omega
  refine CW_seq (CW_region ?_)
  simp only [zZ, reduceIte, Nat.reduceLT, Int.reduceToNat, Int.reduceLE, Int.reduceEq, Int.reduceLT, Nat.reduceEqDiff, Nat.reduceAdd, zDk, pd_eql, pd_neq, pd_eql0, pd_neq0, hN]
  refine CW_seq (CW_region ?_)
  simp only [zZ, reduceIte, Nat.reduceLT, Int.reduceToNat, Int.reduceLE, Int.reduceEq, Int.reduceLT, Nat.reduceEqDiff, Nat.reduceAdd, zDk, pd_eql, pd_neq, pd_eql0, pd_neq0]
  refine ⟨by kernel_rfl, _, new_spec M N hN1 (by omega), ?_⟩
  rintro _ M1 ⟨p, q, g, rfl, hd1, hp, hq, hg, ho1, hs1⟩
  have hlen : (newDsk N).old.length = N := by simp [newDsk]
  simp only [zZ, reduceIte, Nat.reduceLT, Int.reduceToNat, Int.reduceLE, Int.reduceEq, Int.reduceLT, Nat.reduceEqDiff, Nat.reduceAdd, zDk, pd_eql, pd_neq, pd_eql0, pd_neq0, dp]
  refine CW_seq (CW_seq (CW_region ?_))
  simp only [zZ, reduceIte, Nat.reduceLT, Int.reduceToNat, Int.reduceLE, Int.reduceEq, Int.reduceLT, Nat.reduceEqDiff, Nat.reduceAdd, zDk, pd_eql, pd_neq, pd_eql0, pd_neq0, q1]
  refine CW_cond false (by rfl) (fun h => by cases h) (fun _ => CW_skip ?_)
  simp only [zZ, reduceIte, Nat.reduceLT, Int.reduceToNat, Int.reduceLE, Int.reduceEq, Int.reduceLT, Nat.reduceEqDiff, Nat.reduceAdd, zDk, pd_eql, pd_neq, pd_eql0, pd_neq0]
  obtain ⟨b, hb⟩ : ∃ b, b = decide ((N : Int) < 13) := ⟨_, rfl⟩
  have hbN : b = true ↔ N < 13 := by rw [hb, decide_eq_true_eq]; omega
  have d1 : decide ((N : Int) < 13) = b := hb.symm
  have d2 : decide ((13 : Int) ≤ (N : Int)) = !b := by
    rw [hb]
    by_cases h : N < 13
    · rw [decide_eq_false (by omega), decide_eq_true (by omega)]; rfl
    · rw [decide_eq_true (by omega), decide_eq_false (by omega)]; rfl
  have sc : ∀ (M1 : Mem) (d : Dsk) (z : Int), DskAt M1 p q g d → d.old.length = N → ((z = 7 ∧ d.dead = true) ∨ (z = 0 ∧ BlankD d 0)) →
      Abs.Spec Tryz.prog 10 [.pointer (some ⟨p, 0, none⟩), .string t] M1 fun u M' => ∃ v, u = .tuple #[v, .slice none 0 0, .int .i64 (if b = true then 1 else z)] ∧ Only [] M1 M' := by
    intro M1 d z hd hl hz
    by_cases h13 : N < 13
    · refine (scan_small M1 p q g d hd t (by omega)).mono ?_
      rintro u M' ⟨rfl, rfl⟩
      exact ⟨_, by rw [if_pos (hbN.2 h13)], Only.refl _ _⟩
    · rcases hz with ⟨rfl, hz⟩ | ⟨rfl, hz⟩
      · refine (scan_dead M1 p q g d hd t (by omega) hz).mono ?_
        rintro u M' ⟨rfl, rfl⟩
        exact ⟨_, by rw [if_neg (fun h => h13 (hbN.1 h))], Only.refl _ _⟩
      · refine (scan_blank M1 p q g d 0 hz hd t (by omega) (by omega)).mono ?_
        rintro u M' ⟨gl, rfl, _, _, ho, _⟩
        exact ⟨_, by rw [if_neg (fun h => h13 (hbN.1 h))], ho⟩
  refine CW_seq (CW_region ?_)
  simp only [zZ, reduceIte, Nat.reduceLT, Int.reduceToNat, Int.reduceLE, Int.reduceEq, Int.reduceLT, Nat.reduceEqDiff, Nat.reduceAdd, zDk, pd_eql, pd_neq, pd_eql0, pd_neq0]
  refine ⟨by kernel_rfl, _, sc M1 (newDsk N) 0 hd1 hlen (.inr ⟨rfl, newDsk_blank N hN1 (by omega)⟩), ?_⟩
  rintro _ M2 ⟨v1, rfl, ho2⟩
  have hd2 := hd1.only ho2 (by simp) (by simp) (by simp)
  simp only [zZ, reduceIte, Nat.reduceLT, Int.reduceToNat, Int.reduceLE, Int.reduceEq, Int.reduceLT, Nat.reduceEqDiff, Nat.reduceAdd, zDk, pd_eql, pd_neq, pd_eql0, pd_neq0]
  refine CW_seq (CW_region ?_)
  simp only [zZ, reduceIte, Nat.reduceLT, Int.reduceToNat, Int.reduceLE, Int.reduceEq, Int.reduceLT, Nat.reduceEqDiff, Nat.reduceAdd, zDk, pd_eql, pd_neq, pd_eql0, pd_neq0]
  refine ⟨by kernel_rfl, _, scan_none M2 t, ?_⟩
  rintro _ M9 ⟨rfl, e9⟩; replace e9 := e9.symm; subst e9
  simp only [zZ, reduceIte, Nat.reduceLT, Int.reduceToNat, Int.reduceLE, Int.reduceEq, Int.reduceLT, Nat.reduceEqDiff, Nat.reduceAdd, zDk, pd_eql, pd_neq, pd_eql0, pd_neq0]
  obtain ⟨E1, hE1⟩ : ∃ E1 : Int, E1 = if b = true then 1 else 0 := ⟨_, rfl⟩
  have e1 : (E1 == 1) = b := by rw [hE1]; cases b <;> rfl
  have e0 : (E1 == 0) = !b := by rw [hE1]; cases b <;> rfl
  rw [← hE1]
  refine CW_seq (CW_seq (CW_region ?_))
  have r1 : ((1 : Int) != 1) = false := rfl
  have r2 : ∀ b : Bool, (b != b) = false := fun b => by cases b <;> rfl
  simp only [zZ, reduceIte, Nat.reduceLT, Int.reduceToNat, Int.reduceLE, Int.reduceEq, Int.reduceLT, Nat.reduceEqDiff, Nat.reduceAdd, zDk, pd_eql, pd_neq, pd_eql0, pd_neq0, r1, e1, e0, d1, d2, neBB, r2]
  refine CW_cond false (by rfl) (fun h => by cases h) (fun _ => CW_skip ?_)
  simp only [zZ, reduceIte, Nat.reduceLT, Int.reduceToNat, Int.reduceLE, Int.reduceEq, Int.reduceLT, Nat.reduceEqDiff, Nat.reduceAdd, zDk, pd_eql, pd_neq, pd_eql0, pd_neq0]
  refine CW_seq (CW_region ?_)
  simp only [zZ, reduceIte, Nat.reduceLT, Int.reduceToNat, Int.reduceLE, Int.reduceEq, Int.reduceLT, Nat.reduceEqDiff, Nat.reduceAdd, zDk, pd_eql, pd_neq, pd_eql0, pd_neq0]
  refine ⟨by kernel_rfl, _, fuse_spec M2 p q g (newDsk N) hd2 0 (by decide), ?_⟩
  rintro _ M3 ⟨rfl, hd3, _, _⟩
  have hf3 : (if (newDsk N).dead = true then newDsk N else { newDsk N with fuse := max 0 (-1) }) = { newDsk N with fuse := 0 } := rfl
  rw [hf3] at hd3
  simp only [zZ, reduceIte, Nat.reduceLT, Int.reduceToNat, Int.reduceLE, Int.reduceEq, Int.reduceLT, Nat.reduceEqDiff, Nat.reduceAdd, zDk, pd_eql, pd_neq, pd_eql0, pd_neq0]
  refine CW_seq (CW_region ?_)
  simp only [zZ, reduceIte, Nat.reduceLT, Int.reduceToNat, Int.reduceLE, Int.reduceEq, Int.reduceLT, Nat.reduceEqDiff, Nat.reduceAdd, zDk, pd_eql, pd_neq, pd_eql0, pd_neq0]
  refine ⟨by kernel_rfl, _, sync_spec M3 p q g _ hd3, ?_⟩
  have hsy : ({ newDsk N with fuse := 0 } : Dsk).sync = ({ newDsk N with fuse := 0, dead := true }, 7) := by
    unfold Dsk.sync
    have hm : ({ newDsk N with fuse := 0 } : Dsk).may 0 = 0 := by
      unfold Dsk.may
      rw [if_neg (by simp [newDsk]), if_neg (by simp [newDsk]; omega)]
    rw [if_neg (by rw [hm]; simp), if_pos rfl]
    rfl
  rw [hsy]
  rintro _ M4 ⟨rfl, hd4, _, _⟩
  simp only [zZ, reduceIte, Nat.reduceLT, Int.reduceToNat, Int.reduceLE, Int.reduceEq, Int.reduceLT, Nat.reduceEqDiff, Nat.reduceAdd, zDk, pd_eql, pd_neq, pd_eql0, pd_neq0]
  refine CW_seq (CW_region ?_)
  simp only [zZ, reduceIte, Nat.reduceLT, Int.reduceToNat, Int.reduceLE, Int.reduceEq, Int.reduceLT, Nat.reduceEqDiff, Nat.reduceAdd, zDk, pd_eql, pd_neq, pd_eql0, pd_neq0]
  refine ⟨by kernel_rfl, _, sc M4 _ 7 hd4 hlen (.inl ⟨rfl, rfl⟩), ?_⟩
  rintro _ M5 ⟨v5, rfl, ho5⟩
  simp only [zZ, reduceIte, Nat.reduceLT, Int.reduceToNat, Int.reduceLE, Int.reduceEq, Int.reduceLT, Nat.reduceEqDiff, Nat.reduceAdd, zDk, pd_eql, pd_neq, pd_eql0, pd_neq0]
  obtain ⟨E2, hE2⟩ : ∃ E2 : Int, E2 = if b = true then 1 else 7 := ⟨_, rfl⟩
  have f1 : (E2 == 1) = b := by rw [hE2]; cases b <;> rfl
  have f7 : (E2 == 7) = !b := by rw [hE2]; cases b <;> rfl
  rw [← hE2]
  refine CW_seq (CW_seq (CW_region ?_))
  simp only [zZ, reduceIte, Nat.reduceLT, Int.reduceToNat, Int.reduceLE, Int.reduceEq, Int.reduceLT, Nat.reduceEqDiff, Nat.reduceAdd, zDk, pd_eql, pd_neq, pd_eql0, pd_neq0, d1]
  have n1 : (!true) = false := rfl
  have n2 : (!false) = true := rfl
  cases b
  · refine CW_cond false (by rfl) (fun h => by cases h) (fun _ => CW_skip ?_)
    simp only [zZ, reduceIte, Nat.reduceLT, Int.reduceToNat, Int.reduceLE, Int.reduceEq, Int.reduceLT, Nat.reduceEqDiff, Nat.reduceAdd, zDk, pd_eql, pd_neq, pd_eql0, pd_neq0]
    refine CW_seq (CW_region ?_)
    simp only [zZ, reduceIte, Nat.reduceLT, Int.reduceToNat, Int.reduceLE, Int.reduceEq, Int.reduceLT, Nat.reduceEqDiff, Nat.reduceAdd, zDk, pd_eql, pd_neq, pd_eql0, pd_neq0, f7, n2]
    refine ⟨by kernel_rfl, _, awake43_spec M5, ?_⟩
    rintro _ M6 rfl
    simp only [zZ, reduceIte, Nat.reduceLT, Int.reduceToNat, Int.reduceLE, Int.reduceEq, Int.reduceLT, Nat.reduceEqDiff, Nat.reduceAdd, zDk, pd_eql, pd_neq, pd_eql0, pd_neq0]
    refine CW_ret ?_
    simp only [zZ, reduceIte, Nat.reduceLT, Int.reduceToNat, Int.reduceLE, Int.reduceEq, Int.reduceLT, Nat.reduceEqDiff, Nat.reduceAdd, zDk, pd_eql, pd_neq, pd_eql0, pd_neq0, mEnd, sAnswer, sAnswer.sRes]
    exact ⟨M6, Thin.refl _⟩
  · refine CW_cond true (by rfl) (fun _ => CW_seq (CW_region ?_)) (fun h => by cases h)
    simp only [zZ, reduceIte, Nat.reduceLT, Int.reduceToNat, Int.reduceLE, Int.reduceEq, Int.reduceLT, Nat.reduceEqDiff, Nat.reduceAdd, zDk, pd_eql, pd_neq, pd_eql0, pd_neq0, f1]
    refine ⟨by kernel_rfl, _, awake43_spec M5, ?_⟩
    rintro _ M6 rfl
    simp only [zZ, reduceIte, Nat.reduceLT, Int.reduceToNat, Int.reduceLE, Int.reduceEq, Int.reduceLT, Nat.reduceEqDiff, Nat.reduceAdd, zDk, pd_eql, pd_neq, pd_eql0, pd_neq0]
    refine CW_ret ?_
    simp only [zZ, reduceIte, Nat.reduceLT, Int.reduceToNat, Int.reduceLE, Int.reduceEq, Int.reduceLT, Nat.reduceEqDiff, Nat.reduceAdd, zDk, pd_eql, pd_neq, pd_eql0, pd_neq0, mEnd, sAnswer, sAnswer.sRes]
    exact ⟨M6, Thin.refl _⟩
end Go.Proofs.YtmnebimijlnlkaaGreatDoor
