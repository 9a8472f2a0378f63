/-
  The walks of the document's Digits (it calls itself) and name.
  The law ScriptLimit: as many steps as there may be may be.
  How a card's row follows from its law's walk: the listed variables hold what the program's text lays.
-/
import Derived.Test.YthcleiegefhmdaaDoorPart09
import Derived.Test.YthcleiegefhmdaaDoorPart05
import Derived.Test.YthcleiegefhmdaaDoorCards
import Derived.Test.YthcleiegefhmdaaDoorTie
import Derived.Deep.DeepHandedRow
import Derived.Lib.LaidTab
import Derived.Lib.LaidU8
import Derived.Lay
import Derived.MakeChecks
import Derived.Shelf.Vars
set_option linter.unusedSimpArgs false
set_option linter.unusedVariables false
set_option linter.unusedSectionVars false
set_option linter.unnecessarySimpa false
set_option linter.defProp false
namespace Go.Proofs.YthcleiegefhmdaaDoor
open Go.RowKit Abs
theorem new_u1 (x : Int) : nBuildSlice Tryd.prog 35 1 [(0, .int .u8 x)] = some (.cells false 1 [.int .u8 x]) := by
  unfold nBuildSlice
  simp only [Tryd.underlying35, inf_u8, u8_size, u8_zero]
  rfl
end Go.Proofs.YthcleiegefhmdaaDoor
namespace Go.Proofs.YthcleiegefhmdaaDoor
open Go.RowKit Abs
def limText : List UInt8 := [119, 111, 114, 108, 100, 32, 49, 51, 32, 49, 51, 32, 48, 32, 48, 10, 116, 105, 99, 107, 32, 49, 48, 48, 48, 10, 116, 105, 99, 107, 32, 49, 48, 48, 48, 10, 116, 105, 99, 107, 32, 49, 48, 48, 48, 10, 116, 105, 99, 107, 32, 49, 48, 48, 48, 10, 116, 105, 99, 107, 32, 57]
theorem tick_line (k p j : Nat) (w : List UInt8) (hk : k ≠ 0) (hs : stepOf (pieces 32 w []) = some (stepK 1 0, j)) (hp : p + j ≤ 4096) :
    lineOf (decide (k = 0)) (13, 13, 0, 0, List.replicate p (stepK 1 0)) (pieces 32 w []) = some (13, 13, 0, 0, List.replicate (p + j) (stepK 1 0)) := by
  unfold lineOf
  rw [decide_eq_false hk]
  simp only [Bool.false_eq_true, if_false]
  rw [hs]
  unfold addS
  simp only [List.length_replicate]
  rw [if_pos hp, List.replicate_append_replicate]
  rfl
theorem lim_run (c : UInt8) (j : Nat) (hj : j ≤ 96) (hp : pieces 10 (Lib.trimSuffix (limText ++ [c, 10]) [10]) [] = [[119, 111, 114, 108, 100, 32, 49, 51, 32, 49, 51, 32, 48, 32, 48], [116, 105, 99, 107, 32, 49, 48, 48, 48], [116, 105, 99, 107, 32, 49, 48, 48, 48], [116, 105, 99, 107, 32, 49, 48, 48, 48], [116, 105, 99, 107, 32, 49, 48, 48, 48], [116, 105, 99, 107, 32, 57, c]]) (hsf : Lib.hasSuffix (limText ++ [c, 10]) [10] = true)
    (hs : stepOf (pieces 32 [116, 105, 99, 107, 32, 57, c] []) = some (stepK 1 0, j)) : parseV (limText ++ [c, 10]) = ((13, 13, 0, 0, List.replicate (4000 + j) (stepK 1 0)), 0, 0) := by
  have h0 : lineOf (decide (0 = 0)) ps0 (pieces 32 [119, 111, 114, 108, 100, 32, 49, 51, 32, 49, 51, 32, 48, 32, 48] []) = some (13, 13, 0, 0, List.replicate 0 (stepK 1 0)) := by decide +kernel
  have h1 : stepOf (pieces 32 [116, 105, 99, 107, 32, 49, 48, 48, 48] []) = some (stepK 1 0, 1000) := by decide +kernel
  unfold parseV
  rw [if_neg (by simp [limText]), if_neg (by rw [hsf]; decide), hp]
  rw [runLines, h0]
  simp only
  rw [runLines, tick_line 1 0 1000 _ (by decide) h1 (by decide)]
  simp only
  rw [runLines, tick_line 2 _ 1000 _ (by decide) h1 (by decide)]
  simp only
  rw [runLines, tick_line 3 _ 1000 _ (by decide) h1 (by decide)]
  simp only
  rw [runLines, tick_line 4 _ 1000 _ (by decide) h1 (by decide)]
  simp only
  rw [runLines, tick_line 5 _ j _ (by decide) hs (by omega)]
  simp only
  rw [runLines]
theorem lim0 : parseV (limText ++ [52, 10]) = ((13, 13, 0, 0, List.replicate 4094 (stepK 1 0)), 0, 0) := lim_run 52 94 (by decide) (by decide +kernel) (by decide +kernel) (by decide +kernel)
theorem lim1 : parseV (limText ++ [53, 10]) = ((13, 13, 0, 0, List.replicate 4095 (stepK 1 0)), 0, 0) := lim_run 53 95 (by decide) (by decide +kernel) (by decide +kernel) (by decide +kernel)
theorem lim2 : parseV (limText ++ [54, 10]) = ((13, 13, 0, 0, List.replicate 4096 (stepK 1 0)), 0, 0) := lim_run 54 96 (by decide) (by decide +kernel) (by decide +kernel) (by decide +kernel)
theorem lim3 : parseV (limText ++ [55, 10]) = (ps0, 6, 2) := by decide +kernel
theorem and_three (n : Int) (h : isI64 n) : ∃ r : Nat, r < 4 ∧ bits BinOp.and IntKind.i64 n 3 = (r : Int) := by
  have h1 : (BitVec.ofInt 64 3).toNat = 2 ^ 2 - 1 := by decide
  have key : (BitVec.ofInt 64 n &&& BitVec.ofInt 64 3).toNat = (n % ((2 ^ 64 : Nat) : Int)).toNat % 2 ^ 2 := by
    rw [BitVec.toNat_and, BitVec.toNat_ofInt, h1, Nat.and_two_pow_sub_one_eq_mod]
  have e : bits .and .i64 n 3 = IntKind.i64.wrap ((BitVec.ofInt 64 n &&& BitVec.ofInt 64 3).toNat : Nat) := rfl
  refine ⟨(n % ((2 ^ 64 : Nat) : Int)).toNat % 2 ^ 2, Nat.mod_lt _ (by decide), ?_⟩
  rw [e, key, IntKind.wrap_i64]
  omega
theorem make_zeros (M : Mem) (n : Nat) (hn : n ≤ 1000000) : aMakeSlice Tryd.prog M 35 (.int .i64 (n : Int)) (.int .i64 (n : Int)) = some (.slice (some ⟨M.size, 0, none⟩) n n, M.push (.cells false 1 (bytesV (List.replicate n 0)))) := by
  have hz : (Value.int IntKind.u8 0).cells.toList = [.int .u8 0] := rfl
  have hf : flat 3 (.int .u8 0) = true := rfl
  have ho : oneAll [.int .u8 0] = true := rfl
  unfold aMakeSlice
  simp only [Tryd.underlying35, inf_u8, u8_zero, u8_size, u8_bytes, hz, hf, ho, Int.toNat_natCast, Nat.mul_one]
  rw [if_pos ⟨trivial, by decide, trivial, by omega, Int.le_refl _, by omega, by omega⟩]
  simp [aZeros, bytesV, byteV]
set_option maxRecDepth 100000 in
set_option maxHeartbeats 8000000 in
theorem lawlimit_spec (n : Int) (hn : isI64 n) (m : Mem) : Abs.Spec Tryd.prog 5 [.int .i64 n] m fun u M => u = .bool true := by
  refine Abs.Spec.walkM Tryd.func5 (by rfl) _ Tryd.results5 _ Tryd.ntmps5 (by simp) ?_
  intro hc hx k
  have hal := al_Scr
  generalize aStride Tryd.prog 29 = s1 at hal
  obtain ⟨r, hr4, hr⟩ := and_three n hn
  have e4 : IntKind.i64.wrap (52 + (r : Int)) = 52 + (r : Int) := wr (by omega) (by omega)
  obtain ⟨c, hc52⟩ : ∃ c, c = UInt8.ofNat (52 + r) := ⟨_, rfl⟩
  have e5 : IntKind.u8.wrap (52 + (r : Int)) = (c.toNat : Int) := by
    have h10 : ∀ k : Fin 4, IntKind.u8.wrap (52 + (k.val : Int)) = ((UInt8.ofNat (52 + k.val)).toNat : Int) := by decide
    rw [hc52]
    exact h10 ⟨r, hr4⟩
  have hts : ∀ (get : Nat → Option Blk) (g : Nat), get g = some (.cells false 1 [.int .u8 (c.toNat : Int)]) → gToString Tryd.prog get 35 9 (.slice (some ⟨g, 0, none⟩) 1 1) = some (.string (str [c])) := fun get g h => to_str (n := 1) (l := [c]) h rfl
  refine CW_seq (CW_region ?_)
  simp only [zZ, reduceIte, Nat.reduceLT, Int.reduceToNat, Int.reduceLE, Int.reduceEq, Int.reduceLT, Nat.reduceEqDiff, Nat.reduceAdd, zTy]
  refine CW_seq (CW_region ?_)
  simp only [zZ, reduceIte, Nat.reduceLT, Int.reduceToNat, Int.reduceLE, Int.reduceEq, Int.reduceLT, Nat.reduceEqDiff, Nat.reduceAdd, zTy, hr]
  refine CW_seq (CW_region ?_)
  simp only [zZ, reduceIte, Nat.reduceLT, Int.reduceToNat, Int.reduceLE, Int.reduceEq, Int.reduceLT, Nat.reduceEqDiff, Nat.reduceAdd, zTy, e4, e5, new_u1]
  rw [hts _ _ (Mem.get_push_new m _)]
  simp only [zZ, reduceIte, Nat.reduceLT, Int.reduceToNat, Int.reduceLE, Int.reduceEq, Int.reduceLT, Nat.reduceEqDiff, Nat.reduceAdd, zTy]
  refine ⟨by show (62 + 1 : Nat) ≤ _; decide, by show (63 + 1 : Nat) ≤ _; decide, ?_⟩
  rw [show bcat (bcat ⟨#[119, 111, 114, 108, 100, 32, 49, 51, 32, 49, 51, 32, 48, 32, 48, 10, 116, 105, 99, 107, 32, 49, 48, 48, 48, 10, 116, 105, 99, 107, 32, 49, 48, 48, 48, 10, 116, 105, 99, 107, 32, 49, 48, 48, 48, 10, 116, 105, 99, 107, 32, 49, 48, 48, 48, 10, 116, 105, 99, 107, 32, 57]⟩ (str [c])) ⟨#[10]⟩ = str (limText ++ [c, 10]) from rfl]
  refine CW_seq (CW_region ?_)
  simp only [zZ, reduceIte, Nat.reduceLT, Int.reduceToNat, Int.reduceLE, Int.reduceEq, Int.reduceLT, Nat.reduceEqDiff, Nat.reduceAdd, zTy]
  have hlen : (limText ++ [c, 10]).length = 64 := rfl
  have hp := fun M => parse_spec pathOk (limText ++ [c, 10]) (by rw [hlen]; decide) M
  have hpz : parseV (List.replicate 262145 0) = (ps0, 0, 3) := by
    unfold parseV
    rw [if_pos (by rw [List.length_replicate]; decide)]
  have hmk : ∀ M : Mem, aMakeSlice Tryd.prog M 35 (.int .i64 262145) (.int .i64 262145) = some (.slice (some ⟨M.size, 0, none⟩) 262145 262145, M.push (.cells false 1 (bytesV (List.replicate 262145 0)))) := fun M => make_zeros M 262145 (by decide)
  have hz0 : ∀ (get : Nat → Option Blk) (g : Nat), get g = some (.cells false 1 (bytesV (List.replicate 262145 0))) → gToString Tryd.prog get 35 9 (.slice (some ⟨g, 0, none⟩) 262145 262145) = some (.string (str (List.replicate 262145 0))) := fun get g h => to_str (n := 262145) (l := List.replicate 262145 0) h (by rw [List.length_replicate])
  refine ⟨by kernel_rfl, _, hp _, ?_⟩
  by_cases h3 : r = 3
  · subst h3
    have hc : c = 55 := hc52
    subst hc
    rw [lim3]
    rintro _ M1 ⟨_, _, V1, rfl, hV1⟩
    replace hV1 : ScrAt M1 V1 [] := hV1
    obtain ⟨a1, c1, rfl, _⟩ := id hV1.choose_spec.2.2
    simp only [zZ, reduceIte, Nat.reduceLT, Int.reduceToNat, Int.reduceLE, Int.reduceEq, Int.reduceLT, Nat.reduceEqDiff, Nat.reduceAdd, zTy, scrAgg, hal, show ps0 = (0, 0, 0, 0, []) from rfl, Mem.get_push_new, push_set]
    obtain ⟨M2, hM2⟩ : ∃ M2, M2 = M1.push (.cells false s1 [.int .i64 0, .int .i64 0, .int .i64 0, .int .i64 0, .slice a1 0 c1]) := ⟨_, rfl⟩
    rw [← hM2]
    have hb2 : M2.get M1.size = some (.cells false s1 [.int .i64 0, .int .i64 0, .int .i64 0, .int .i64 0, .slice a1 0 c1]) := by rw [hM2, Mem.get_push_new]
    clear hM2
    refine CW_seq (CW_seq (CW_region ?_))
    simp only [zZ, reduceIte, Nat.reduceLT, Int.reduceToNat, Int.reduceLE, Int.reduceEq, Int.reduceLT, Nat.reduceEqDiff, Nat.reduceAdd, zTy, show decide ((2 : Int) < ((3 : Nat) : Int)) = true from rfl]
    have n2 : ((2 : Int) != 2) = false := rfl
    have n6 : ((6 : Int) != 6) = false := rfl
    have d0 : decide ((0 : Int) < ((0 : Nat) : Int)) = false := rfl
    refine CW_cond true (by rfl) (fun _ => CW_seq (CW_region ?_)) (fun h => by cases h)
    simp only [zZ, reduceIte, Nat.reduceLT, Int.reduceToNat, Int.reduceLE, Int.reduceEq, Int.reduceLT, Nat.reduceEqDiff, Nat.reduceAdd, zTy, n2, n6, hb2, d0]
    refine CW_cond false (by rfl) (fun h => by cases h) (fun _ => CW_skip ?_)
    simp only [zZ, reduceIte, Nat.reduceLT, Int.reduceToNat, Int.reduceLE, Int.reduceEq, Int.reduceLT, Nat.reduceEqDiff, Nat.reduceAdd]
    refine CW_seq (CW_region ?_)
    simp only [zZ, reduceIte, Nat.reduceLT, Int.reduceToNat, Int.reduceLE, Int.reduceEq, Int.reduceLT, Nat.reduceEqDiff, Nat.reduceAdd, zTy, hmk]
    rw [hz0 _ _ (Mem.get_push_new M2 _)]
    simp only [zZ, reduceIte, Nat.reduceLT, Int.reduceToNat, Int.reduceLE, Int.reduceEq, Int.reduceLT, Nat.reduceEqDiff, Nat.reduceAdd, zTy]
    refine ⟨by kernel_rfl, _, parse_spec pathOk (List.replicate 262145 0) (by rw [List.length_replicate]; decide) _, ?_⟩
    rw [hpz]
    rintro _ M3 ⟨_, _, V3, rfl, hV3⟩
    simp only at hV3
    obtain ⟨a3, c3, rfl, _⟩ := id hV3.choose_spec.2.2
    have z0 : ((0 : Int) == 0) = true := rfl
    have z3 : ((3 : Int) == 3) = true := rfl
    simp only [zZ, reduceIte, Nat.reduceLT, Int.reduceToNat, Int.reduceLE, Int.reduceEq, Int.reduceLT, Nat.reduceEqDiff, Nat.reduceAdd, zTy, scrAgg, hal, Mem.get_push_new, push_set]
    refine CW_seq (CW_region ?_)
    simp only [zZ, reduceIte, Nat.reduceLT, Int.reduceToNat, Int.reduceLE, Int.reduceEq, Int.reduceLT, Nat.reduceEqDiff, Nat.reduceAdd, zTy, z0, z3]
    refine ⟨by kernel_rfl, _, awake_spec _, ?_⟩
    rintro _ M5 ⟨rfl, _⟩
    simp only [zZ, reduceIte, Nat.reduceLT, Int.reduceToNat, Int.reduceLE, Int.reduceEq, Int.reduceLT, Nat.reduceEqDiff, Nat.reduceAdd, zTy]
    refine CW_ret ?_
    simp only [zZ, reduceIte, Nat.reduceLT, Int.reduceToNat, Int.reduceLE, Int.reduceEq, Int.reduceLT, Nat.reduceEqDiff, Nat.reduceAdd, zTy, mEnd, sAnswer, sAnswer.sRes]
    exact ⟨M5, Thin.refl _⟩
  · have hr3 : r < 3 := by omega
    have hlim : parseV (limText ++ [c, 10]) = ((13, 13, 0, 0, List.replicate (4094 + r) (stepK 1 0)), 0, 0) := by
      have : r = 0 ∨ r = 1 ∨ r = 2 := by omega
      rcases this with rfl | rfl | rfl
      · rw [hc52]; exact lim0
      · rw [hc52]; exact lim1
      · rw [hc52]; exact lim2
    rw [hlim]
    rintro _ M1 ⟨_, _, V1, rfl, hV1⟩
    simp only at hV1
    obtain ⟨a1, c1, rfl, _⟩ := id hV1.choose_spec.2.2
    rw [List.length_replicate] at *
    simp only [zZ, reduceIte, Nat.reduceLT, Int.reduceToNat, Int.reduceLE, Int.reduceEq, Int.reduceLT, Nat.reduceEqDiff, Nat.reduceAdd, zTy, scrAgg, hal, Mem.get_push_new, push_set]
    obtain ⟨M2, hM2⟩ : ∃ M2, M2 = M1.push (.cells false s1 [.int .i64 13, .int .i64 13, .int .i64 0, .int .i64 0, .slice a1 (4094 + r) c1]) := ⟨_, rfl⟩
    rw [← hM2]
    have hb2 : M2.get M1.size = some (.cells false s1 [.int .i64 13, .int .i64 13, .int .i64 0, .int .i64 0, .slice a1 (4094 + r) c1]) := by rw [hM2, Mem.get_push_new]
    clear hM2
    refine CW_seq (CW_seq (CW_region ?_))
    simp only [zZ, reduceIte, Nat.reduceLT, Int.reduceToNat, Int.reduceLE, Int.reduceEq, Int.reduceLT, Nat.reduceEqDiff, Nat.reduceAdd, zTy, show decide ((2 : Int) < (r : Int)) = false from decide_eq_false (by omega)]
    have n0 : ((0 : Int) != 0) = false := rfl
    have w5 : IntKind.i64.wrap (4094 + (r : Int)) = ((4094 + r : Nat) : Int) := by rw [wr (by omega) (by omega)]; omega
    have nn : ∀ q : Int, (q != q) = false := fun q => by simp
    refine CW_cond false (by rfl) (fun h => by cases h) (fun _ => CW_seq (CW_region ?_))
    simp only [zZ, reduceIte, Nat.reduceLT, Int.reduceToNat, Int.reduceLE, Int.reduceEq, Int.reduceLT, Nat.reduceEqDiff, Nat.reduceAdd, zTy, n0, hb2, w5, nn]
    refine CW_cond false (by rfl) (fun h => by cases h) (fun _ => CW_skip ?_)
    simp only [zZ, reduceIte, Nat.reduceLT, Int.reduceToNat, Int.reduceLE, Int.reduceEq, Int.reduceLT, Nat.reduceEqDiff, Nat.reduceAdd]
    refine CW_seq (CW_region ?_)
    simp only [zZ, reduceIte, Nat.reduceLT, Int.reduceToNat, Int.reduceLE, Int.reduceEq, Int.reduceLT, Nat.reduceEqDiff, Nat.reduceAdd, zTy, hmk]
    rw [hz0 _ _ (Mem.get_push_new M2 _)]
    simp only [zZ, reduceIte, Nat.reduceLT, Int.reduceToNat, Int.reduceLE, Int.reduceEq, Int.reduceLT, Nat.reduceEqDiff, Nat.reduceAdd, zTy]
    refine ⟨by kernel_rfl, _, parse_spec pathOk (List.replicate 262145 0) (by rw [List.length_replicate]; decide) _, ?_⟩
    rw [hpz]
    rintro _ M3 ⟨_, _, V3, rfl, hV3⟩
    simp only at hV3
    obtain ⟨a3, c3, rfl, _⟩ := id hV3.choose_spec.2.2
    have z0 : ((0 : Int) == 0) = true := rfl
    have z3 : ((3 : Int) == 3) = true := rfl
    simp only [zZ, reduceIte, Nat.reduceLT, Int.reduceToNat, Int.reduceLE, Int.reduceEq, Int.reduceLT, Nat.reduceEqDiff, Nat.reduceAdd, zTy, scrAgg, hal, Mem.get_push_new, push_set]
    refine CW_seq (CW_region ?_)
    simp only [zZ, reduceIte, Nat.reduceLT, Int.reduceToNat, Int.reduceLE, Int.reduceEq, Int.reduceLT, Nat.reduceEqDiff, Nat.reduceAdd, zTy, z0, z3]
    refine ⟨by kernel_rfl, _, awake_spec _, ?_⟩
    rintro _ M5 ⟨rfl, _⟩
    simp only [zZ, reduceIte, Nat.reduceLT, Int.reduceToNat, Int.reduceLE, Int.reduceEq, Int.reduceLT, Nat.reduceEqDiff, Nat.reduceAdd, zTy]
    refine CW_ret ?_
    simp only [zZ, reduceIte, Nat.reduceLT, Int.reduceToNat, Int.reduceLE, Int.reduceEq, Int.reduceLT, Nat.reduceEqDiff, Nat.reduceAdd, zTy, mEnd, sAnswer, sAnswer.sRes]
    exact ⟨M5, Thin.refl _⟩
end Go.Proofs.YthcleiegefhmdaaDoor
namespace Go.Proofs.YthcleiegefhmdaaDoor
open Go.ChangeShapes Go.WideShapes Go.ChangeAt Go.RowKit Abs
theorem tab_of_reads {P : Program} {W : World} {name : String} {k : IntKind} {zs : List Int} {g : Nat} {t e : TypeId} {n : Nat}
    (hg : P.globalNamed name = some g) (hty : (P.globals[g]?).map (·.type) = some t) (ht : P.underlying t = some (.array n e)) (he : P.underlying e = some (.int k)) (hce : P.cellsOf e = 1) (hct : P.cellsOf t = n)
    (h : Lib.VarReads P W name (Lib.tabData k zs)) : Lib.TabIs P W name k zs := by
  obtain ⟨g', t', cs, fuel, p, hg', ht', hvar, hd⟩ := h
  obtain rfl := Option.some.inj (hg.symm.trans hg')
  obtain rfl := Option.some.inj (hty.symm.trans ht')
  unfold Lib.TabIs
  rw [hvar, ← Lib.cells_of_tab ht he hce hct hd]
theorem err_of_reads {P : Program} {W : World} {name : String} {d : DataW Unit} {g : Nat} {t : TypeId} {ms : Array (String × TypeId)}
    (hg : P.globalNamed name = some g) (hty : (P.globals[g]?).map (·.type) = some t) (ht : P.underlying t = some (.interface ms)) (h : Lib.VarReads P W name d) :
    ∃ ev, W.cell? ⟨g, 0, none⟩ = some ev ∧ (ev = .nilIface ∨ ∃ te pe, ev = .iface te pe) := by
  obtain ⟨g', t', cs, fuel, p, hg', ht', hvar, hd⟩ := h
  obtain rfl := Option.some.inj (hg.symm.trans hg')
  obtain rfl := Option.some.inj (hty.symm.trans ht')
  have hc := World.var?_cell hg hvar 0
  obtain ⟨l⟩ := cs
  cases fuel with
  | zero => simp [DataW.trod] at hd
  | succ fuel =>
    unfold DataW.trod at hd
    rw [ht] at hd
    rcases l with _ | ⟨v, _ | ⟨b, r⟩⟩
    · simp at hd
    · cases v <;> first | (simp at hd; done) | exact ⟨_, hc.trans rfl, .inl rfl⟩ | exact ⟨_, hc.trans rfl, .inr ⟨_, _, rfl⟩⟩
    · cases v <;> simp at hd
theorem returns_of_walked_card {C : Checked} {os : Os} {n : FuncId} {f : Func} {s : ChangeSpec} {tb : TypeId} {laid : List (String × DataW Unit)} (own : ownKnob C.prog.godebug = none) (started : os.Started)
    (noInit : C.prog.inits.idxOf? n = none) (hf : C.prog.funcs[n]? = some f) (hl : laidOutB C.prog = true)
    (hs : IsLaw s f.params.size) (hr : f.resultTypes = #[tb]) (hu : C.prog.underlying tb = some .bool) (hp : ∀ t ∈ f.params.toList, C.prog.readableRec t = true ∧ t < C.prog.types.size)
    (hpl : (laid.all fun x => x.2.handleName?.isNone) = true)
    {H : Type} {enc : TypeId × Value → H} (F : Stop.Interp)
    (witness : ∃ (w : World) (tape : Tape) (i : Input), w.os = os ∧ (w.forCall tape i).Shaped C.prog ∧ i.vars = [] ∧ Input.okWide C.prog (w.forCall tape i) .any w.heap.size n i ∧
      (OpenSpec.ofChange s).preRow enc C.prog f [] false laid (w.forCall tape i).memory i.args ∧ Assume.holds {} C.prog (lone (Frame.enter C.prog n i.args .normal) [] (w.forCall tape i)))
    (walk : ∀ (W : World) (base : Nat) (args : Array Value) (ds : List (DataW H)) (ps : List MemPlace), laidMet C.prog laid W → W.ShapedOpen C.prog → (∀ (j : Nat) t v, f.params[j]? = some t → args[j]? = some v → Value.okWide C.prog W .any base t v) →
      DataW.TrodAll enc C.prog W 0 (fun _ => true) true f.params.toList args.toList ds ps → (∀ x ∈ DataW.weightsEach C.prog f.params.toList ds, x ≤ reachBytes) →
      Calls C.prog n args W fun e W' => e = .returned (.bool true) ∧ Below W.heap.size W W') :
    ReturnsInHanded {} C os n .any ((OpenSpec.ofChange s).preRow enc C.prog f [] false laid) (((OpenSpec.ofChange s).at F).post enc C.prog f false true false false) := by
  refine returnsInHanded_of_row (C := C) (s := OpenSpec.ofChange s) own started noInit hf witness ?_
  intro W base args ds gs before hval hW _ _ hz hL hS _
  obtain ⟨p, q, hA, hV, rfl, hfz, hnd⟩ := id hW
  have hv : (OpenSpec.ofChange s).vars = [] := hs.1
  have hv0 : s.vars = [] := hs.1
  rw [hv] at hV
  obtain ⟨rfl, rfl⟩ := trodVars_none hV
  rw [List.append_nil] at hz
  have hz' : ∀ x ∈ DataW.weightsEach C.prog f.params.toList ds, x ≤ reachBytes := by
    have e : (OpenSpec.ofChange s).bare.plain.varTypes C.prog = [] := by
      show s.plain.varTypes C.prog = []
      simp [ChangeSpec.plain, hv0, DataSpec.varTypes]
    rw [e, List.append_nil] at hz
    intro x hx
    simpa using List.all_eq_true.1 hz x hx
  rw [MakeChecks.laidMetH_plain _ _ _ hpl] at hL
  refine (walk W base args ds p hL hS hval hA hz').mono fun e W' ⟨he, hb⟩ => ?_
  exact ⟨_, he, law_post hl hs hr hu hp hW hb⟩
end Go.Proofs.YthcleiegefhmdaaDoor
