/-
  The walks of the document's Digits (it calls itself) and name.
  The plain law: what was parsed is printed as a text that is parsed as it was.
  The walk of the document's Print.
  The walk of Script.Config; memories cut.
  The law ScriptPrints: any script has the text that the document says, and the world.
  How a card's row follows from its law's walk: the listed variables hold what the program's text lays.
-/
import Derived.Test.YthcleiegefhmdaaDoorPart09
import Derived.Test.YthcleiegefhmdaaDoorPart07
import Derived.Test.YthcleiegefhmdaaDoorPart05
import Derived.Test.YthcleiegefhmdaaDoorCards
import Derived.Test.YthcleiegefhmdaaDoorTie
import Derived.Deep.DeepHandedRow
import Derived.Lib.LaidTab
import Derived.Lib.LaidU8
import Derived.Lay
import Derived.MakeChecks
import Derived.Shelf.Vars
set_option linter.unusedSimpArgs false
set_option linter.unusedVariables false
set_option linter.unusedSectionVars false
set_option linter.unnecessarySimpa false
set_option linter.defProp false
namespace Go.Proofs.YthcleiegefhmdaaDoor
open Go.RowKit Abs
theorem new_u1 (x : Int) : nBuildSlice Tryd.prog 35 1 [(0, .int .u8 x)] = some (.cells false 1 [.int .u8 x]) := by
  unfold nBuildSlice
  simp only [Tryd.underlying35, inf_u8, u8_size, u8_zero]
  rfl
theorem dec_len (u : Nat) (h : u < 9223372036854775808) : (Lib.decDigits u).length ≤ 19 := by
  rcases pow_digits u with h1 | rfl
  · apply Decidable.byContradiction
    intro h2
    have h3 : 10 ^ 19 ≤ 10 ^ ((Lib.decDigits u).length - 1) := Nat.pow_le_pow_right (by decide) (by omega)
    have : (10 : Nat) ^ 19 = 10000000000000000000 := by decide
    omega
  · decide +kernel
set_option maxRecDepth 100000 in
set_option maxHeartbeats 2000000 in
theorem rdigits_nat (u : Nat) : u ≤ 9223372036854775807 → ∀ m, Abs.Spec Tryd.prog 26 [.int .i64 (u : Nat)] m fun v M => v = .string (str (Lib.decDigits u)) ∧ M = m := by
  induction u using Nat.strongRecOn with
  | _ u ih =>
    intro hu m
    refine Abs.Spec.walkB Tryd.func26 (by rfl) _ Tryd.results26 _ Tryd.ntmps26 (by simp) m [] (ext_nil m).symm 0 rfl (.inl rfl) ?_
    intro hc _
    have d0 : decide ((u : Int) < 0) = false := decide_eq_false (by omega)
    refine CW_seq (CW_region ?_)
    simp only [zZ, reduceIte, Nat.reduceLT, Int.reduceToNat, Int.reduceLE, Int.reduceEq, Int.reduceLT, Nat.reduceEqDiff, Nat.reduceAdd, zTy, Tryd.underlying5, Tryd.underlying35]
    refine CW_seq (CW_seq (CW_region ?_))
    simp only [zZ, reduceIte, Nat.reduceLT, Int.reduceToNat, Int.reduceLE, Int.reduceEq, Int.reduceLT, Nat.reduceEqDiff, Nat.reduceAdd, zTy, Tryd.underlying5, Tryd.underlying35, d0]
    refine CW_cond false (by rfl) (fun h => by cases h) (fun _ => CW_skip ?_)
    simp only [zZ, reduceIte, Nat.reduceLT, Int.reduceToNat, Int.reduceLE, Int.reduceEq, Int.reduceLT, Nat.reduceEqDiff, Nat.reduceAdd]
    refine CW_seq (CW_seq (CW_region ?_))
    simp only [zZ, reduceIte, Nat.reduceLT, Int.reduceToNat, Int.reduceLE, Int.reduceEq, Int.reduceLT, Nat.reduceEqDiff, Nat.reduceAdd, zTy, Tryd.underlying5, Tryd.underlying35]
    refine CW_cond (decide ((9 : Int) < (u : Int))) (by rfl) (fun h => CW_seq (CW_region ?_)) (fun h => CW_skip ?_)
    · have h9 : 9 < u := by have := of_decide_eq_true h; omega
      have e1 : (u : Int).tdiv 10 = ((u / 10 : Nat) : Int) := by rw [Int.tdiv_eq_ediv_of_nonneg (by omega)]; omega
      have e2 : (u : Int).tmod 10 = ((u % 10 : Nat) : Int) := by rw [Int.tmod_eq_emod_of_nonneg (by omega)]; omega
      have e3 : IntKind.i64.wrap ((u / 10 : Nat) : Int) = ((u / 10 : Nat) : Int) := by rw [IntKind.wrap_i64]; omega
      simp only [zZ, reduceIte, Nat.reduceLT, Int.reduceToNat, Int.reduceLE, Int.reduceEq, Int.reduceLT, Nat.reduceEqDiff, Nat.reduceAdd, zTy, Tryd.underlying5, Tryd.underlying35, e1, e2, e3]
      refine ⟨by kernel_rfl, _, ih (u / 10) (by omega) (by omega) _, ?_⟩
      rintro _ _ ⟨rfl, rfl⟩
      simp only [zZ, reduceIte, Nat.reduceLT, Int.reduceToNat, Int.reduceLE, Int.reduceEq, Int.reduceLT, Nat.reduceEqDiff, Nat.reduceAdd, zTy, Tryd.underlying5, Tryd.underlying35, e2]
      refine ⟨by kernel_rfl, _, ih (u % 10) (by omega) (by omega) _, ?_⟩
      rintro _ _ ⟨rfl, rfl⟩
      have l1 := dec_len (u / 10) (by omega)
      have l2 := dec_len (u % 10) (by omega)
      simp only [zZ, reduceIte, Nat.reduceLT, Int.reduceToNat, Int.reduceLE, Int.reduceEq, Int.reduceLT, Nat.reduceEqDiff, Nat.reduceAdd, zTy, Tryd.underlying5, Tryd.underlying35, cat_str, siz_str]
      refine ⟨by omega, ?_⟩
      refine CW_ret ?_
      simp only [zZ, reduceIte, Nat.reduceLT, Int.reduceToNat, Int.reduceLE, Int.reduceEq, Int.reduceLT, Nat.reduceEqDiff, Nat.reduceAdd, zTy, Tryd.underlying5, Tryd.underlying35, bEnd, sAnswer, sAnswer.sRes]
      refine told_flat rfl ?_
      rw [show Lib.decDigits u = Lib.decDigits (u / 10) ++ [UInt8.ofNat (48 + u % 10)] by rw [Lib.decDigits, dif_neg (by omega)], Lib.decDigits_one (show u % 10 < 10 by omega)]
    · have h9 : u < 10 := by have := of_decide_eq_false h; omega
      simp only [zZ, reduceIte, Nat.reduceLT, Int.reduceToNat, Int.reduceLE, Int.reduceEq, Int.reduceLT, Nat.reduceEqDiff, Nat.reduceAdd]
      refine CW_seq (CW_region ?_)
      have e4 : IntKind.i64.wrap (48 + (u : Int)) = 48 + (u : Int) := wr (by omega) (by omega)
      have e5 : IntKind.u8.wrap (48 + (u : Int)) = ((UInt8.ofNat (48 + u)).toNat : Int) := by
        rw [dig_nat h9]
        have h10 : ∀ k : Fin 10, IntKind.u8.wrap (48 + (k.val : Int)) = ((48 + k.val : Nat) : Int) := by decide
        exact h10 ⟨u, h9⟩
      simp only [zZ, reduceIte, Nat.reduceLT, Int.reduceToNat, Int.reduceLE, Int.reduceEq, Int.reduceLT, Nat.reduceEqDiff, Nat.reduceAdd, zTy, Tryd.underlying5, Tryd.underlying35, e4, e5, new_u1]
      have hts : ∀ (get : Nat → Option Blk) (g : Nat), get g = some (.cells false 1 [.int .u8 ((UInt8.ofNat (48 + u)).toNat : Int)]) → gToString Tryd.prog get 35 9 (.slice (some ⟨g, 0, none⟩) 1 1) = some (.string (str [UInt8.ofNat (48 + u)])) := fun get g h => to_str (n := 1) (l := [UInt8.ofNat (48 + u)]) h rfl
      rw [hts _ _ (by rw [ext_get]; rfl)]
      simp only [zZ, reduceIte, Nat.reduceLT, Int.reduceToNat, Int.reduceLE, Int.reduceEq, Int.reduceLT, Nat.reduceEqDiff, Nat.reduceAdd]
      refine CW_ret ?_
      simp only [zZ, reduceIte, Nat.reduceLT, Int.reduceToNat, Int.reduceLE, Int.reduceEq, Int.reduceLT, Nat.reduceEqDiff, Nat.reduceAdd, zTy, Tryd.underlying5, Tryd.underlying35, bEnd, sAnswer, sAnswer.sRes]
      exact told_flat rfl (by rw [Lib.decDigits_one h9])
set_option maxRecDepth 100000 in
set_option maxHeartbeats 2000000 in
theorem rdigits_spec (n : Int) (h0 : -9223372036854775807 ≤ n) (h1 : n ≤ 9223372036854775807) (m : Mem) : Abs.Spec Tryd.prog 26 [.int .i64 n] m fun v M => v = .string (str (Lib.itoa n)) ∧ M = m := by
  by_cases hn : n < 0
  · refine Abs.Spec.walkB Tryd.func26 (by rfl) _ Tryd.results26 _ Tryd.ntmps26 (by simp) m [] (ext_nil m).symm 0 rfl (.inl rfl) ?_
    intro hc _
    have d0 : decide (n < 0) = true := decide_eq_true hn
    refine CW_seq (CW_region ?_)
    simp only [zZ, reduceIte, Nat.reduceLT, Int.reduceToNat, Int.reduceLE, Int.reduceEq, Int.reduceLT, Nat.reduceEqDiff, Nat.reduceAdd, zTy, Tryd.underlying5, Tryd.underlying35]
    refine CW_seq (CW_seq (CW_region ?_))
    simp only [zZ, reduceIte, Nat.reduceLT, Int.reduceToNat, Int.reduceLE, Int.reduceEq, Int.reduceLT, Nat.reduceEqDiff, Nat.reduceAdd, zTy, Tryd.underlying5, Tryd.underlying35, d0]
    refine CW_cond true (by rfl) (fun _ => CW_seq (CW_region ?_)) (fun h => by cases h)
    have e1 : IntKind.i64.wrap (-n) = (((-n).toNat : Nat) : Int) := by rw [IntKind.wrap_i64]; omega
    have e0 : aUn .neg (.int .i64 n) = some (.int .i64 (((-n).toNat : Nat) : Int)) := by
      rw [← e1, ← Int.zero_sub]; rfl
    simp only [zZ, reduceIte, Nat.reduceLT, Int.reduceToNat, Int.reduceLE, Int.reduceEq, Int.reduceLT, Nat.reduceEqDiff, Nat.reduceAdd, zTy, Tryd.underlying5, Tryd.underlying35, e0]
    refine ⟨by kernel_rfl, _, rdigits_nat (-n).toNat (by omega) _, ?_⟩
    rintro _ _ ⟨rfl, rfl⟩
    have l1 := dec_len (-n).toNat (by omega)
    have z1 : bsize (⟨#[45]⟩ : ByteArray) = 1 := rfl
    simp only [zZ, reduceIte, Nat.reduceLT, Int.reduceToNat, Int.reduceLE, Int.reduceEq, Int.reduceLT, Nat.reduceEqDiff, Nat.reduceAdd, zTy, Tryd.underlying5, Tryd.underlying35]
    refine ⟨by rw [z1, siz_str]; omega, ?_⟩
    refine CW_ret ?_
    simp only [zZ, reduceIte, Nat.reduceLT, Int.reduceToNat, Int.reduceLE, Int.reduceEq, Int.reduceLT, Nat.reduceEqDiff, Nat.reduceAdd, zTy, Tryd.underlying5, Tryd.underlying35, bEnd, sAnswer, sAnswer.sRes]
    refine told_flat rfl ?_
    unfold Lib.itoa
    rw [if_pos hn]
    rw [show n.natAbs = (-n).toNat by omega]
    exact congrArg Value.string (cat_str [45] _)
  · obtain ⟨u, rfl⟩ : ∃ u : Nat, n = (u : Int) := ⟨n.toNat, by omega⟩
    have hi : Lib.itoa (u : Int) = Lib.decDigits u := by unfold Lib.itoa; rw [if_neg hn]; rfl
    rw [hi]
    exact rdigits_nat u (by omega) m
set_option maxRecDepth 100000 in
set_option maxHeartbeats 2000000 in
theorem rname_spec (n : Int) (m : Mem) : Abs.Spec Tryd.prog 27 [.int .i64 n] m fun v M => v = .string (str (sideL n)) ∧ M = m := by
  refine Abs.Spec.walkB Tryd.func27 (by rfl) _ Tryd.results27 _ Tryd.ntmps27 (by simp) m [] (ext_nil m).symm 0 rfl (.inl rfl) ?_
  intro hc _
  refine CW_seq (CW_region ?_)
  simp only [zZ, reduceIte, Nat.reduceLT, Int.reduceToNat, Int.reduceLE, Int.reduceEq, Int.reduceLT, Nat.reduceEqDiff, Nat.reduceAdd, zTy, Tryd.underlying5, Tryd.underlying35]
  refine CW_seq (CW_seq (CW_region ?_))
  simp only [zZ, reduceIte, Nat.reduceLT, Int.reduceToNat, Int.reduceLE, Int.reduceEq, Int.reduceLT, Nat.reduceEqDiff, Nat.reduceAdd, zTy, Tryd.underlying5, Tryd.underlying35]
  refine CW_cond (n == 1) (by rfl) (fun h => CW_seq (CW_region ?_)) (fun h => CW_skip ?_)
  · have hn : n = 1 := by simpa using h
    simp only [zZ, reduceIte, Nat.reduceLT, Int.reduceToNat, Int.reduceLE, Int.reduceEq, Int.reduceLT, Nat.reduceEqDiff, Nat.reduceAdd, zTy, Tryd.underlying5, Tryd.underlying35]
    refine CW_ret ?_
    simp only [zZ, reduceIte, Nat.reduceLT, Int.reduceToNat, Int.reduceLE, Int.reduceEq, Int.reduceLT, Nat.reduceEqDiff, Nat.reduceAdd, zTy, Tryd.underlying5, Tryd.underlying35, bEnd, sAnswer, sAnswer.sRes]
    exact told_flat rfl (by rw [sideL, if_pos hn]; rfl)
  · have hn : n ≠ 1 := by simpa using h
    simp only [zZ, reduceIte, Nat.reduceLT, Int.reduceToNat, Int.reduceLE, Int.reduceEq, Int.reduceLT, Nat.reduceEqDiff, Nat.reduceAdd]
    refine CW_seq (CW_region ?_)
    simp only [zZ, reduceIte, Nat.reduceLT, Int.reduceToNat, Int.reduceLE, Int.reduceEq, Int.reduceLT, Nat.reduceEqDiff, Nat.reduceAdd, zTy, Tryd.underlying5, Tryd.underlying35]
    refine CW_ret ?_
    simp only [zZ, reduceIte, Nat.reduceLT, Int.reduceToNat, Int.reduceLE, Int.reduceEq, Int.reduceLT, Nat.reduceEqDiff, Nat.reduceAdd, zTy, Tryd.underlying5, Tryd.underlying35, bEnd, sAnswer, sAnswer.sRes]
    exact told_flat rfl (by rw [sideL, if_neg hn]; rfl)
end Go.Proofs.YthcleiegefhmdaaDoor
namespace Go.Proofs.YthcleiegefhmdaaDoor
open Go.RowKit Abs
theorem join_cons2 (a b : List UInt8) (r : List (List UInt8)) (sep : List UInt8) : Lib.join (a :: b :: r) sep = a ++ sep ++ Lib.join (b :: r) sep := by
  simp [Lib.join, List.intercalate, List.intersperse, List.append_assoc]
theorem join_one (a : List UInt8) (sep : List UInt8) : Lib.join [a] sep = a := Lib.join_one a sep
theorem join_pieces (c : UInt8) : ∀ (l cur : List UInt8), Lib.join (pieces c l cur) [c] = cur ++ l
  | [], cur => by rw [pieces, join_one, List.append_nil]
  | b :: r, cur => by
    rw [pieces]
    split
    · rename_i h
      subst h
      obtain ⟨x, q, hq⟩ : ∃ x q, pieces b r [] = x :: q := by
        cases h : pieces b r [] with
        | nil => have := pieces_len b r []; rw [h] at this; simp at this
        | cons x q => exact ⟨x, q, rfl⟩
      have := join_pieces b r []
      rw [hq] at this ⊢
      rw [join_cons2, this]; simp
    · rw [join_pieces c r]; simp
theorem pieces_join (c : UInt8) : ∀ (ws : List (List UInt8)), ws ≠ [] → (∀ w ∈ ws, c ∉ w) → pieces c (Lib.join ws [c]) [] = ws
  | [], h, _ => absurd rfl h
  | [w], _, h => by rw [join_one, pieces_not c w [] (h w (by simp))]; rfl
  | w :: v :: r, _, h => by
    rw [join_cons2, List.append_assoc]
    have := pieces_at c w (Lib.join (v :: r) [c]) [] (h w (by simp))
    rw [show [c] ++ Lib.join (v :: r) [c] = c :: Lib.join (v :: r) [c] from rfl, this, pieces_join c (v :: r) (by simp) (fun x hx => h x (by simp [hx]))]
    rfl
def GoodStep (z : StepL) : Prop := z = stepK 1 0 ∨ (z.kind ≠ 1 ∧ ∃ w : List UInt8, 10 ∉ w ∧ w.length ≤ 900000 ∧ stepOf (pieces 32 w []) = some (z, 1) ∧ stepLine z = w ++ [10])
theorem line_pieces (w : List UInt8) : lineL (pieces 32 w []) = w ++ [10] := by
  unfold lineL; rw [join_pieces, List.nil_append]
def nt : List StepL → Nat
  | [] => 0
  | z :: r => (if z.kind = 1 then 0 else (stepLine z).length) + nt r
def GoodScr (x : PS) (B : Nat) : Prop := ∃ w0 : List UInt8, 10 ∉ w0 ∧ firstOf (pieces 32 w0 []) = some (x.1, x.2.1, x.2.2.1, x.2.2.2.1) ∧ lineL [[119, 111, 114, 108, 100], Lib.itoa x.1, Lib.itoa x.2.1, Lib.itoa x.2.2.1, Lib.itoa x.2.2.2.1] = w0 ++ [10] ∧
  isI64 x.1 ∧ isI64 x.2.1 ∧ isI64 x.2.2.1 ∧ isI64 x.2.2.2.1 ∧ (∀ z ∈ x.2.2.2.2, GoodStep z) ∧ x.2.2.2.2.length ≤ 4096 ∧ w0.length + 1 + nt x.2.2.2.2 ≤ B
def tickW (k : Nat) : List UInt8 := wTick ++ [32] ++ Lib.itoa (k : Int)
def linesB : Nat → List StepL → List (List UInt8)
  | _, [] => []
  | n, z :: r => if z.kind = 1 then (if tickNext r = true ∧ n + 1 < 1000 then linesB (n + 1) r else tickW (n + 1) :: linesB 0 r) else (stepLine z).dropLast :: linesB 0 r
theorem dec_digits : ∀ (u : Nat), ∀ b ∈ Lib.decDigits u, 48 ≤ b.toNat ∧ b.toNat ≤ 57 := by
  intro u
  induction u using Nat.strongRecOn with
  | _ u ih =>
    intro b hb
    by_cases h : u < 10
    · rw [Lib.decDigits_one h, List.mem_singleton] at hb
      subst hb
      rw [dig_nat h]; omega
    · rw [Lib.decDigits, dif_neg h] at hb
      rcases List.mem_append.1 hb with hb | hb
      · exact ih (u / 10) (by omega) b hb
      · rw [List.mem_singleton] at hb
        subst hb
        rw [dig_nat (Nat.mod_lt u (by decide : 10 > 0))]; omega
theorem itoa_free (v : Int) (c : UInt8) (hc : c = 10 ∨ c = 32) : c ∉ Lib.itoa v := by
  intro h
  have hd : ∀ u, c ∉ Lib.decDigits u := fun u hu => by
    have := dec_digits u c hu
    rcases hc with rfl | rfl <;> revert this <;> decide
  unfold Lib.itoa at h
  split at h
  · rcases List.mem_cons.1 h with h | h
    · rcases hc with rfl | rfl <;> exact absurd h (by decide)
    · exact hd _ h
  · exact hd _ h
theorem tickW_free (k : Nat) : 10 ∉ tickW k := by
  unfold tickW wTick
  intro h
  rcases List.mem_append.1 h with h | h
  · revert h; decide
  · exact itoa_free _ _ (.inl rfl) h
theorem tickW_pieces (k : Nat) : pieces 32 (tickW k) [] = [wTick, Lib.itoa (k : Int)] := by
  have : tickW k = Lib.join [wTick, Lib.itoa (k : Int)] [32] := by rw [join_cons2, join_one]; rfl
  rw [this]
  refine pieces_join 32 _ (by simp) fun w hw => ?_
  simp at hw
  rcases hw with rfl | rfl
  · decide
  · exact itoa_free _ _ (.inr rfl)
theorem tickW_line (k : Nat) : lineL [wTick, Lib.itoa (k : Int)] = tickW k ++ [10] := by
  rw [← tickW_pieces k, line_pieces]
theorem tick_step (k : Nat) (h1 : 1 ≤ k) (h2 : k ≤ 1000) : stepOf (pieces 32 (tickW k) []) = some (stepK 1 0, k) := by
  rw [tickW_pieces]
  have hn : numQ (Lib.itoa (k : Int)) 1 1000 = some (k : Int) := by
    unfold numQ
    have := (numP_iff (Lib.itoa (k : Int)) 1 1000 k (by decide) (by decide)).2 ⟨rfl, by omega, by omega⟩
    rw [this]; rfl
  show tickOf [Lib.itoa (k : Int)] = _
  simp only [tickOf, hn]
  simp
theorem linesB_free : ∀ (L : List StepL) (n : Nat), (∀ z ∈ L, GoodStep z) → ∀ w ∈ linesB n L, 10 ∉ w
  | [], n, _, w, hw => by simp [linesB] at hw
  | z :: r, n, hg, w, hw => by
    have hr : ∀ y ∈ r, GoodStep y := fun y hy => hg y (by simp [hy])
    rw [linesB] at hw
    split at hw
    · split at hw
      · exact linesB_free r _ hr w hw
      · rcases List.mem_cons.1 hw with rfl | hw
        · exact tickW_free _
        · exact linesB_free r _ hr w hw
    · rename_i hk
      rcases List.mem_cons.1 hw with rfl | hw
      · rcases hg z (by simp) with rfl | ⟨_, v, h1, _, _, h4⟩
        · exact absurd rfl hk
        · rw [h4, List.dropLast_concat]; exact h1
      · exact linesB_free r _ hr w hw
theorem printB_lines : ∀ (L : List StepL) (n : Nat), (∀ z ∈ L, GoodStep z) → printB n L = (linesB n L).flatMap (· ++ [10])
  | [], n, _ => rfl
  | z :: r, n, hg => by
    have hr : ∀ y ∈ r, GoodStep y := fun y hy => hg y (by simp [hy])
    rw [printB, linesB]
    split
    · split
      · exact printB_lines r _ hr
      · rw [List.flatMap_cons, printB_lines r 0 hr]
        congr 1
        exact tickW_line (n + 1)
    · rename_i hk
      rw [List.flatMap_cons, printB_lines r 0 hr]
      congr 1
      rcases hg z (by simp) with rfl | ⟨_, v, h1, _, _, h4⟩
      · exact absurd rfl hk
      · rw [h4, List.dropLast_concat]
theorem rerun (a b c d : Int) : ∀ (L : List StepL) (n k : Nat) (acc : List StepL), k ≠ 0 → (∀ z ∈ L, GoodStep z) → acc.length + n + L.length ≤ 4096 → n < 1000 → (n ≠ 0 → tickNext L = true) →
    runLines (linesB n L) k (a, b, c, d, acc) = ((a, b, c, d, acc ++ List.replicate n (stepK 1 0) ++ L), 0, 0)
  | [], n, k, acc, _, _, _, _, ht => by
    have : n = 0 := by
      apply Decidable.byContradiction
      intro h
      exact absurd (ht h) (by decide)
    subst this
    simp [linesB, runLines]
  | z :: r, n, k, acc, hk, hg, hl, hn, ht => by
    have hr : ∀ y ∈ r, GoodStep y := fun y hy => hg y (by simp [hy])
    simp only [List.length_cons] at hl
    rw [linesB]
    split
    · rename_i hz
      have hze : z = stepK 1 0 := by
        rcases hg z (by simp) with h | h
        · exact h
        · exact absurd hz h.1
      subst hze
      split
      · rename_i hc
        rw [rerun a b c d r (n + 1) k acc hk hr (by omega) hc.2 (fun _ => hc.1)]
        rw [List.replicate_succ']
        simp
      · rw [runLines]
        have e : lineOf (decide (k = 0)) (a, b, c, d, acc) (pieces 32 (tickW (n + 1)) []) = some (a, b, c, d, acc ++ List.replicate (n + 1) (stepK 1 0)) := by
          unfold lineOf
          rw [decide_eq_false hk]
          simp only [Bool.false_eq_true, if_false]
          rw [tick_step (n + 1) (by omega) (by omega)]
          unfold addS
          simp only
          rw [if_pos (by omega)]; rfl
        rw [e]
        simp only
        rw [rerun a b c d r 0 (k + 1) _ (by omega) hr (by simp; omega) (by decide) (fun h => absurd rfl h)]
        rw [List.replicate_succ']
        simp
    · rename_i hz
      have hn0 : n = 0 := by
        apply Decidable.byContradiction
        intro h
        exact hz (of_decide_eq_true (ht h))
      subst hn0
      rcases hg z (by simp) with rfl | ⟨_, v, h1, _, h3, h4⟩
      · exact absurd rfl hz
      · rw [h4, List.dropLast_concat, runLines]
        have e : lineOf (decide (k = 0)) (a, b, c, d, acc) (pieces 32 v []) = some (a, b, c, d, acc ++ [z]) := by
          unfold lineOf
          rw [decide_eq_false hk]
          simp only [Bool.false_eq_true, if_false]
          rw [h3]
          unfold addS
          simp only
          rw [if_pos (by omega)]; rfl
        rw [e]
        simp only
        rw [rerun a b c d r 0 (k + 1) _ (by omega) hr (by simp; omega) (by decide) (fun h => absurd rfl h)]
        simp
theorem flat_join : ∀ (w : List UInt8) (ls : List (List UInt8)), (w :: ls).flatMap (· ++ [10]) = Lib.join (w :: ls) [10] ++ [10]
  | w, [] => by rw [join_one]; simp
  | w, v :: r => by rw [List.flatMap_cons, flat_join v r, join_cons2]; simp
theorem itoa_short : ∀ n : Fin 1001, (Lib.itoa (n.val : Int)).length ≤ 4 := by decide +kernel
theorem printB_len : ∀ (L : List StepL) (n : Nat), n < 1000 → (printB n L).length ≤ nt L + 12 * L.length
  | [], n, _ => by simp [printB, nt]
  | z :: r, n, hn => by
    rw [printB, nt]
    simp only [List.length_cons]
    split
    · split
      · rename_i h; have := printB_len r (n + 1) h.2; omega
      · have h0 := printB_len r 0 (by decide)
        have h1 := itoa_short ⟨n + 1, by omega⟩
        have h2 : (lineL [[116, 105, 99, 107], Lib.itoa ((n + 1 : Nat) : Int)]).length = 6 + (Lib.itoa ((n + 1 : Nat) : Int)).length := by
          rw [show ([116, 105, 99, 107] : List UInt8) = wTick from rfl, tickW_line]; simp [tickW, wTick]; omega
        rw [List.length_append, h2]
        simp only at h1
        omega
    · have h0 := printB_len r 0 (by decide)
      rw [List.length_append]; omega
theorem print_len {x : PS} {B : Nat} (h : GoodScr x B) : (printV x).length ≤ B + 49152 := by
  obtain ⟨w0, _, _, h1, _, _, _, _, _, h2, h3⟩ := h
  unfold printV
  rw [h1]
  have := printB_len x.2.2.2.2 0 (by decide)
  simp only [List.length_append, List.length_singleton]
  omega
theorem back {x : PS} {B : Nat} (h : GoodScr x B) (hB : B ≤ 200000) : parseV (printV x) = (x, 0, 0) := by
  have hlen := print_len h
  obtain ⟨w0, hw0, h1, h2, _, _, _, _, hg, hl, _⟩ := h
  obtain ⟨a, b, c, d, L⟩ := x
  simp only at h1 h2 hg hl
  have e : printV (a, b, c, d, L) = Lib.join (w0 :: linesB 0 L) [10] ++ [10] := by
    rw [← flat_join, List.flatMap_cons, ← printB_lines L 0 hg, ← h2]; rfl
  rw [e] at hlen ⊢
  unfold parseV
  rw [if_neg (by omega)]
  have hs : Lib.hasSuffix (Lib.join (w0 :: linesB 0 L) [10] ++ [10]) [10] = true := (suffix_iff _ _).2 ⟨_, rfl⟩
  rw [if_neg (by rw [hs]; decide), trim_eq, pieces_join 10 _ (by simp) (fun w hw => by
    rcases List.mem_cons.1 hw with rfl | hw
    · exact hw0
    · exact linesB_free L 0 hg w hw), runLines]
  have e1 : lineOf (decide (0 = 0)) ps0 (pieces 32 w0 []) = some (a, b, c, d, []) := by
    unfold lineOf
    simp only [decide_true, if_true]
    rw [h1]; rfl
  rw [e1]
  simp only
  rw [rerun a b c d L 0 (0 + 1) [] (by decide) hg (by simp; omega) (by decide) (fun h => absurd rfl h)]
  simp
end Go.Proofs.YthcleiegefhmdaaDoor
namespace Go.Proofs.YthcleiegefhmdaaDoor
open Go.RowKit Abs
theorem itoa_len (n : Int) (h : isI64 n) : (Lib.itoa n).length ≤ 20 := by
  obtain ⟨h0, h1⟩ := h
  unfold Lib.itoa
  split
  · have := dec_len n.natAbs
    by_cases e : n = -9223372036854775808
    · subst e; decide +kernel
    · have := this (by omega)
      simp only [List.length_cons]; omega
  · have := dec_len n.toNat (by omega); omega
def fileS (f : FileL) : List UInt8 := [32] ++ fileW f
theorem sideL_len (n : Int) : (sideL n).length ≤ 8 := by unfold sideL; split <;> simp
set_option maxRecDepth 100000 in
set_option maxHeartbeats 8000000 in
theorem rprint_spec (x : PS) (a : Option Addr) (ca : Nat) (m : Mem) (hA : ScrAt m (.slice a x.2.2.2.2.length ca) x.2.2.2.2) (h0 : isI64 x.1) (h1 : isI64 x.2.1) (h2 : isI64 x.2.2.1) (h3 : isI64 x.2.2.2.1) (hneg : -9223372036854775808 < x.1 ∧ -9223372036854775808 < x.2.1 ∧ -9223372036854775808 < x.2.2.1 ∧ -9223372036854775808 < x.2.2.2.1)
    (hl : x.2.2.2.2.length ≤ 1000000000) (hok : ∀ y ∈ x.2.2.2.2, StepOk y ∧ -9223372036854775808 < y.n ∧ -9223372036854775808 < y.delay ∧ -9223372036854775808 < y.copies) (hT : (printV x).length ≤ 140737488355328) :
    Abs.Spec Tryd.prog 14 [scrAgg x (.slice a x.2.2.2.2.length ca)] m fun u M => u = .string (str (printV x)) ∧ Keeps m.size m M := by
  refine Abs.Spec.walkM Tryd.func14 (by rfl) _ Tryd.results14 _ Tryd.ntmps14 (by simp) ?_
  intro hc hx k
  obtain ⟨x0, x1, x2, x3, L⟩ := x
  simp only at hA h0 h1 h2 h3 hl hok hneg ⊢
  obtain ⟨T, hTe⟩ : ∃ T, T = printV (x0, x1, x2, x3, L) := ⟨_, rfl⟩
  rw [← hTe] at hT ⊢
  have bA : nBox Tryd.prog 49 (scrAgg (x0, x1, x2, x3, L) (.slice a L.length ca)) = some (.cells false (aStride Tryd.prog 49) [.int .i64 x0, .int .i64 x1, .int .i64 x2, .int .i64 x3, .slice a L.length ca]) := bx_RScr _ rfl
  generalize aStride Tryd.prog 49 = s1 at bA
  have hal := al_Step
  generalize aStride Tryd.prog 41 = s2 at hal
  obtain ⟨LA, hA1, hA2, hA3⟩ := hA
  have hLA : LA.length = L.length := by rw [← hA1, List.length_map]
  refine CW_seq (CW_region ?_)
  simp only [zZ, reduceIte, Nat.reduceLT, Int.reduceToNat, Int.reduceLE, Int.reduceEq, Int.reduceLT, Nat.reduceEqDiff, Nat.reduceAdd, zTy, cat_str, cat_lit, lit_cat, bA]
  obtain ⟨M0, hM0⟩ : ∃ M0, M0 = m.push (.cells false s1 [.int .i64 x0, .int .i64 x1, .int .i64 x2, .int .i64 x3, .slice a L.length ca]) := ⟨_, rfl⟩
  rw [← hM0]
  have hM0s : M0.size = m.size + 1 := by rw [hM0, Mem.size_push]
  have hold0 : ∀ b y, m.get b = some y → M0.get b = some y := fun b y hb => by
    rw [hM0, Mem.get_push_old (get_live hb)]; exact hb
  have hsc0 : M0.get m.size = some (.cells false s1 [.int .i64 x0, .int .i64 x1, .int .i64 x2, .int .i64 x3, .slice a L.length ca]) := by rw [hM0, Mem.get_push_new]
  have l0 := itoa_len x0 h0
  have l1 := itoa_len x1 h1
  have l2 := itoa_len x2 h2
  have l3 := itoa_len x3 h3
  refine CW_seq (CW_draw hmix 18 (by kernel_rfl) (by kernel_rfl) ?_)
  simp only [zZ, reduceIte, Nat.reduceLT, Int.reduceToNat, Int.reduceLE, Int.reduceEq, Int.reduceLT, Nat.reduceEqDiff, Nat.reduceAdd, zTy, cat_str, cat_lit, lit_cat, hsc0]
  refine ⟨by kernel_rfl, _, rdigits_spec x0 (by omega) h0.2 _, ?_⟩
  refine ⟨by decide, ?_⟩
  simp only [zZ, reduceIte, Nat.reduceLT, Int.reduceToNat, Int.reduceLE, Int.reduceEq, Int.reduceLT, Nat.reduceEqDiff, Nat.reduceAdd, zTy, cat_str, cat_lit, lit_cat, hsc0]
  refine ⟨(by simp only [siz_str, siz_lit, List.length_append, List.length_cons, List.length_nil]; omega), (by simp only [siz_str, siz_lit, List.length_append, List.length_cons, List.length_nil]; omega), by kernel_rfl, _, rdigits_spec x1 (by omega) h1.2 _, ?_⟩
  refine ⟨by decide, ?_⟩
  simp only [zZ, reduceIte, Nat.reduceLT, Int.reduceToNat, Int.reduceLE, Int.reduceEq, Int.reduceLT, Nat.reduceEqDiff, Nat.reduceAdd, zTy, cat_str, cat_lit, lit_cat, hsc0]
  refine ⟨(by simp only [siz_str, siz_lit, List.length_append, List.length_cons, List.length_nil]; omega), (by simp only [siz_str, siz_lit, List.length_append, List.length_cons, List.length_nil]; omega), by kernel_rfl, _, rdigits_spec x2 (by omega) h2.2 _, ?_⟩
  refine ⟨by decide, ?_⟩
  simp only [zZ, reduceIte, Nat.reduceLT, Int.reduceToNat, Int.reduceLE, Int.reduceEq, Int.reduceLT, Nat.reduceEqDiff, Nat.reduceAdd, zTy, cat_str, cat_lit, lit_cat, hsc0]
  refine ⟨(by simp only [siz_str, siz_lit, List.length_append, List.length_cons, List.length_nil]; omega), (by simp only [siz_str, siz_lit, List.length_append, List.length_cons, List.length_nil]; omega), by kernel_rfl, _, rdigits_spec x3 (by omega) h3.2 _, ?_⟩
  refine ⟨by decide, ?_⟩
  simp only [zZ, reduceIte, Nat.reduceLT, Int.reduceToNat, Int.reduceLE, Int.reduceEq, Int.reduceLT, Nat.reduceEqDiff, Nat.reduceAdd, zTy, cat_str, cat_lit, lit_cat, hsc0]
  refine ⟨(by simp only [siz_str, siz_lit, List.length_append, List.length_cons, List.length_nil]; omega), (by simp only [siz_str, siz_lit, List.length_append, List.length_cons, List.length_nil]; omega), ?_⟩
  obtain ⟨hd, hhd⟩ : ∃ hd, hd = lineL [[119, 111, 114, 108, 100], Lib.itoa x0, Lib.itoa x1, Lib.itoa x2, Lib.itoa x3] := ⟨_, rfl⟩
  have hT0 : T = hd ++ printB 0 L := by rw [hTe, hhd]; rfl
  have hlenT : ∀ t r : List UInt8, T = t ++ r → t.length + r.length ≤ 140737488355328 := fun t r h => by
    rw [h] at hT
    simpa using hT
  have he : (119 :: 111 :: 114 :: 108 :: 100 :: 32 :: (Lib.itoa x0 ++ [32] ++ Lib.itoa x1 ++ [32] ++ Lib.itoa x2 ++ [32] ++ Lib.itoa x3 ++ [10]) : List UInt8) = hd := by
    rw [hhd]; simp [lineL, join_cons2, join_one]
  rw [he]
  refine CW_seq (CW_region ?_)
  simp only [zZ, reduceIte, Nat.reduceLT, Int.reduceToNat, Int.reduceLE, Int.reduceEq, Int.reduceLT, Nat.reduceEqDiff, Nat.reduceAdd, zTy, cat_str, cat_lit, lit_cat]
  refine CW_seq (CW_seq (CW_region ?_))
  simp only [zZ, reduceIte, Nat.reduceLT, Int.reduceToNat, Int.reduceLE, Int.reduceEq, Int.reduceLT, Nat.reduceEqDiff, Nat.reduceAdd, zTy, cat_str, cat_lit, lit_cat]
  refine CW_block (MW_loop (fun j f M => ∃ (i n : Nat) (t : List UInt8), i + j = L.length ∧ f = [(1, .pointer (some ⟨m.size, 0, none⟩)), (3, .string (str t)), (4, .int .i64 ((n : Nat) : Int)), (5, .int .i64 ((i : Nat) : Int))] ∧
    Keeps M0.size M0 M ∧ M0.size ≤ M.size ∧ T = t ++ printB n (L.drop i) ∧ n < 1000 ∧ (n ≠ 0 → tickNext (L.drop i) = true)) L.length ?_ ?_)
  · refine ⟨[1, 3, 4, 5], ?_⟩
    simp only [zZ, reduceIte, Nat.reduceLT, Int.reduceToNat, Int.reduceLE, Int.reduceEq, Int.reduceLT, Nat.reduceEqDiff, Nat.reduceAdd, keepF]
    exact ⟨M0, Thin.refl _, 0, 0, hd, by omega, rfl, Keeps.refl _ _, Nat.le_refl _, by rw [hT0]; rfl, by decide, fun h => absurd rfl h⟩
  · rintro j f M ⟨i, n, t, hij, rfl, hk, hs, hTt, hn, htk⟩
    have hsc : M.get m.size = some (.cells false s1 [.int .i64 x0, .int .i64 x1, .int .i64 x2, .int .i64 x3, .slice a L.length ca]) := hk.1 _ _ (by omega) hsc0
    refine CW_seq (CW_seq (CW_region ?_))
    simp only [zZ, reduceIte, Nat.reduceLT, Int.reduceToNat, Int.reduceLE, Int.reduceEq, Int.reduceLT, Nat.reduceEqDiff, Nat.reduceAdd, zTy, cat_str, cat_lit, lit_cat, hsc]
    refine CW_cond (decide ((i : Int) < (L.length : Int))) (by rfl) (fun h => CW_skip ?_) (fun h => CW_exit ?_)
    · simp only [zZ, reduceIte, Nat.reduceLT, Int.reduceToNat, Int.reduceLE, Int.reduceEq, Int.reduceLT, Nat.reduceEqDiff, Nat.reduceAdd]
      have hil : i < L.length := by have := of_decide_eq_true h; omega
      have g0 : (0 : Int) ≤ (i : Int) := by omega
      have g1 : (i : Int) < (L.length : Int) := by omega
      obtain ⟨ga, ra, hpa, hga⟩ := hA3.at (by omega)
      have hgM : ∀ M', Keeps M0.size M0 M' → M'.get ga = some (.cells ra 7 (LA.flatMap stepC)) := fun M' hk' => hk'.1 _ _ (by have := get_live hga; omega) (hold0 _ _ hga)
      obtain ⟨⟨y, V⟩, hX⟩ : ∃ A, LA[i]? = some A := ⟨_, List.getElem?_eq_getElem (by omega)⟩
      have hXL : L[i]? = some y := by rw [← hA1, List.getElem?_map, hX]; rfl
      obtain ⟨hyok, hyn, hyd, hyc⟩ := hok y (List.mem_of_getElem? hXL)
      have hdr : L.drop i = y :: L.drop (i + 1) := drop_get hXL
      have hV := hA2 _ (List.mem_of_getElem? hX)
      simp only at hV
      obtain ⟨va, vc, rfl⟩ := hV.len
      have r1 : rowIn 7 (i * 7) (some (.cells ra 7 (LA.flatMap stepC))) = some (.agg #[.int .i64 y.kind, .int .i64 y.n, .slice va y.files.length vc, .string (str y.text), .bool y.drop, .int .i64 y.delay, .int .i64 y.copies]) := rowIn_at (n := 7) (fun a _ => stepC_len a) hX ra 7
      have ti : IntKind.i64.wrap ((i : Int) + 1) = ((i + 1 : Nat) : Int) := by rw [wr (by omega) (by omega)]; omega
      have tn : IntKind.i64.wrap ((n : Int) + 1) = ((n + 1 : Nat) : Int) := by rw [wr (by omega) (by omega)]; omega
      have ln := itoa_len y.n hyok.n
      have ld := itoa_len y.delay hyok.delay
      have lc := itoa_len y.copies hyok.copies
      have lt0 : t.length ≤ 140737488355328 := by have := hlenT t _ hTt; omega
      subst hpa
      refine MW_mid (fun f M' => ∃ (t' : List UInt8) (n' : Nat), f = [(1, .pointer (some ⟨m.size, 0, none⟩)), (3, .string (str t')), (4, .int .i64 ((n' : Nat) : Int)), (5, .int .i64 ((i : Nat) : Int))] ∧ Keeps M0.size M0 M' ∧ M0.size ≤ M'.size ∧ T = t' ++ printB n' (L.drop (i + 1)) ∧ n' < 1000 ∧ (n' ≠ 0 → tickNext (L.drop (i + 1)) = true)) ?_ ?_
      rotate_left
      · rintro f M' ⟨t', n', rfl, hk', hs', hT', hn', htk'⟩
        refine CW_region ?_
        simp only [zZ, reduceIte, Nat.reduceLT, Int.reduceToNat, Int.reduceLE, Int.reduceEq, Int.reduceLT, Nat.reduceEqDiff, Nat.reduceAdd, zTy, cat_str, cat_lit, lit_cat, ti]
        refine ⟨[1, 3, 4, 5], ?_⟩
        simp only [zZ, reduceIte, Nat.reduceLT, Int.reduceToNat, Int.reduceLE, Int.reduceEq, Int.reduceLT, Nat.reduceEqDiff, Nat.reduceAdd, keepF]
        exact ⟨M', Thin.refl _, L.length - (i + 1), ⟨i + 1, n', t', by omega, rfl, hk', hs', hT', hn', htk'⟩, by omega⟩
      · refine CW_block (CW_seq (CW_region ?_))
        simp only [zZ, reduceIte, Nat.reduceLT, Int.reduceToNat, Int.reduceLE, Int.reduceEq, Int.reduceLT, Nat.reduceEqDiff, Nat.reduceAdd, zTy, cat_str, cat_lit, lit_cat, hsc, g0, g1, and_self, hgM M hk, r1, hal, Mem.get_push_new, push_set]
        obtain ⟨M3, hM3⟩ : ∃ M3, M3 = M.push (.cells false s2 [.int .i64 y.kind, .int .i64 y.n, .slice va y.files.length vc, .string (str y.text), .bool y.drop, .int .i64 y.delay, .int .i64 y.copies]) := ⟨_, rfl⟩
        rw [← hM3]
        have hk3 : Keeps M0.size M0 M3 := hk.trans (by rw [hM3]; exact Keeps.push _ _ _)
        have hs3 : M3.size = M.size + 1 := by rw [hM3, Mem.size_push]
        have hsc3 : M3.get m.size = some (.cells false s1 [.int .i64 x0, .int .i64 x1, .int .i64 x2, .int .i64 x3, .slice (some ⟨ga, 0, none⟩) L.length ca]) := by rw [hM3, Mem.get_push_old (get_live hsc)]; exact hsc
        have hga3 := hgM M3 hk3
        have hy3 : M3.get M.size = some (.cells false s2 [.int .i64 y.kind, .int .i64 y.n, .slice va y.files.length vc, .string (str y.text), .bool y.drop, .int .i64 y.delay, .int .i64 y.copies]) := by rw [hM3, Mem.get_push_new]
        clear hM3
        refine CW_seq (CW_seq (CW_region ?_))
        simp only [zZ, reduceIte, Nat.reduceLT, Int.reduceToNat, Int.reduceLE, Int.reduceEq, Int.reduceLT, Nat.reduceEqDiff, Nat.reduceAdd, zTy, cat_str, cat_lit, lit_cat, hy3]
        refine CW_cond (y.kind == 1) (by rfl) (fun h => CW_seq (CW_region ?_)) (fun h => CW_skip ?_)
        · have k1 : y.kind = 1 := by simpa using h
          simp only [zZ, reduceIte, Nat.reduceLT, Int.reduceToNat, Int.reduceLE, Int.reduceEq, Int.reduceLT, Nat.reduceEqDiff, Nat.reduceAdd, zTy, cat_str, cat_lit, lit_cat, tn]
          have hk : y.kind = 1 := k1
          have b0 : (y.kind == 0) = false := by rw [hk]; rfl
          have b2 : (y.kind == 2) = false := by rw [hk]; rfl
          have b3 : (y.kind == 3) = false := by rw [hk]; rfl
          have b4 : (y.kind == 4) = false := by rw [hk]; rfl
          have b5 : (y.kind == 5) = false := by rw [hk]; rfl
          have b6 : (y.kind == 6) = false := by rw [hk]; rfl
          have b7 : (y.kind == 7) = false := by rw [hk]; rfl
          have lk := itoa_len ((n + 1 : Nat) : Int) ⟨by omega, by omega⟩
          have stop : ¬ (tickNext (L.drop (i + 1)) = true ∧ n + 1 < 1000) → T = t ++ (lineL [[116, 105, 99, 107], Lib.itoa ((n + 1 : Nat) : Int)] ++ printB 0 (L.drop (i + 1))) := fun hno => by rw [hTt, hdr, printB, if_pos k1, if_neg hno]
          have goon : (tickNext (L.drop (i + 1)) = true ∧ n + 1 < 1000) → T = t ++ printB (n + 1) (L.drop (i + 1)) := fun hno => by rw [hTt, hdr, printB, if_pos k1, if_pos hno]
          refine CW_seq (CW_seq (CW_region ?_))
          by_cases q3 : n + 1 < 1000
          · have d3 : decide (((n + 1 : Nat) : Int) < 1000) = true := decide_eq_true (by omega)
            by_cases q1 : i + 1 < L.length
            · obtain ⟨⟨z2, V2⟩, hX2⟩ : ∃ A, LA[i + 1]? = some A := ⟨_, List.getElem?_eq_getElem (by omega)⟩
              have hz2 : L[i + 1]? = some z2 := by rw [← hA1, List.getElem?_map, hX2]; rfl
              have cz : (LA.flatMap stepC)[(i + 1) * 7]? = some (.int .i64 z2.kind) := flatMap_get (fun a _ => stepC_len a) hX2 (o := 0) (by decide)
              have hd2 : L.drop (i + 1) = z2 :: L.drop (i + 1 + 1) := drop_get hz2
              have d1 : decide (((i + 1 : Nat) : Int) < (L.length : Int)) = true := decide_eq_true (by omega)
              have u0 : (0 : Int) ≤ ((i + 1 : Nat) : Int) := by omega
              have u1 : ((i + 1 : Nat) : Int) < (L.length : Int) := by omega
              by_cases q2 : z2.kind = 1
              · have d2 : (z2.kind == 1) = true := by rw [q2]; rfl
                simp only [zZ, reduceIte, Nat.reduceLT, Int.reduceToNat, Int.reduceLE, Int.reduceEq, Int.reduceLT, Nat.reduceEqDiff, Nat.reduceAdd, zTy, cat_str, cat_lit, lit_cat, hsc3, ti, d1, u0, u1, and_self, decide_true, hga3, cz, d2, d3]
                refine CW_cond true (by rfl) (fun _ => CW_exit ?_) (fun h => by cases h)
                simp only [zZ, reduceIte, Nat.reduceLT, Int.reduceToNat, Int.reduceLE, Int.reduceEq, Int.reduceLT, Nat.reduceEqDiff, Nat.reduceAdd]
                refine ⟨[1, 3, 4, 5], ?_⟩
                simp only [zZ, reduceIte, Nat.reduceLT, Int.reduceToNat, Int.reduceLE, Int.reduceEq, Int.reduceLT, Nat.reduceEqDiff, Nat.reduceAdd, keepF]
                have hgo : tickNext (L.drop (i + 1)) = true := by rw [hd2]; exact decide_eq_true q2
                exact ⟨M3, Thin.refl _, t, n + 1, rfl, hk3, by omega, goon ⟨hgo, q3⟩, q3, fun _ => hgo⟩
              · have d2 : (z2.kind == 1) = false := by simpa using q2
                simp only [zZ, reduceIte, Nat.reduceLT, Int.reduceToNat, Int.reduceLE, Int.reduceEq, Int.reduceLT, Nat.reduceEqDiff, Nat.reduceAdd, zTy, cat_str, cat_lit, lit_cat, hsc3, ti, d1, u0, u1, and_self, decide_true, hga3, cz, d2, d3]
                refine CW_cond false (by rfl) (fun h => by cases h) (fun _ => CW_skip ?_)
                simp only [zZ, reduceIte, Nat.reduceLT, Int.reduceToNat, Int.reduceLE, Int.reduceEq, Int.reduceLT, Nat.reduceEqDiff, Nat.reduceAdd]
                replace stop := stop (by rw [hd2]; exact fun h => q2 (of_decide_eq_true h.1))
                have hlf := hlenT _ _ stop
                rw [List.length_append] at hlf
                refine CW_seq (CW_region ?_)
                simp only [zZ, reduceIte, Nat.reduceLT, Int.reduceToNat, Int.reduceLE, Int.reduceEq, Int.reduceLT, Nat.reduceEqDiff, Nat.reduceAdd, zTy, cat_str, cat_lit, lit_cat]
                refine ⟨(by simp only [siz_str, siz_lit, List.length_append, List.length_cons, List.length_nil]; omega), by kernel_rfl, _, rdigits_spec ((n + 1 : Nat) : Int) (by omega) (by omega) _, ?_⟩
                rintro _ M9 ⟨rfl, e9⟩
                replace e9 := e9.symm
                subst e9
                simp only [zZ, reduceIte, Nat.reduceLT, Int.reduceToNat, Int.reduceLE, Int.reduceEq, Int.reduceLT, Nat.reduceEqDiff, Nat.reduceAdd, zTy, cat_str, cat_lit, lit_cat]
                refine ⟨(by simp only [siz_str, siz_lit, List.length_append, List.length_cons, List.length_nil]; omega), (by simp only [siz_str, siz_lit, List.length_append, List.length_cons, List.length_nil]; omega), ?_⟩
                refine CW_region ?_
                simp only [zZ, reduceIte, Nat.reduceLT, Int.reduceToNat, Int.reduceLE, Int.reduceEq, Int.reduceLT, Nat.reduceEqDiff, Nat.reduceAdd, zTy, cat_str, cat_lit, lit_cat]
                refine CW_seq (CW_seq (CW_region ?_))
                simp only [zZ, reduceIte, Nat.reduceLT, Int.reduceToNat, Int.reduceLE, Int.reduceEq, Int.reduceLT, Nat.reduceEqDiff, Nat.reduceAdd, zTy, cat_str, cat_lit, lit_cat, hy3, b0, b2, b3, b4, b5, b6, b7]
                refine CW_cond false (by rfl) (fun h => by cases h) (fun _ => CW_skip ?_)
                simp only [zZ, reduceIte, Nat.reduceLT, Int.reduceToNat, Int.reduceLE, Int.reduceEq, Int.reduceLT, Nat.reduceEqDiff, Nat.reduceAdd]
                refine CW_seq (CW_seq (CW_region ?_))
                simp only [zZ, reduceIte, Nat.reduceLT, Int.reduceToNat, Int.reduceLE, Int.reduceEq, Int.reduceLT, Nat.reduceEqDiff, Nat.reduceAdd, zTy, cat_str, cat_lit, lit_cat, hy3, b0, b2, b3, b4, b5, b6, b7]
                refine CW_cond false (by rfl) (fun h => by cases h) (fun _ => CW_skip ?_)
                simp only [zZ, reduceIte, Nat.reduceLT, Int.reduceToNat, Int.reduceLE, Int.reduceEq, Int.reduceLT, Nat.reduceEqDiff, Nat.reduceAdd]
                refine CW_seq (CW_seq (CW_region ?_))
                simp only [zZ, reduceIte, Nat.reduceLT, Int.reduceToNat, Int.reduceLE, Int.reduceEq, Int.reduceLT, Nat.reduceEqDiff, Nat.reduceAdd, zTy, cat_str, cat_lit, lit_cat, hy3, b0, b2, b3, b4, b5, b6, b7]
                refine CW_cond false (by rfl) (fun h => by cases h) (fun _ => CW_skip ?_)
                simp only [zZ, reduceIte, Nat.reduceLT, Int.reduceToNat, Int.reduceLE, Int.reduceEq, Int.reduceLT, Nat.reduceEqDiff, Nat.reduceAdd]
                refine CW_seq (CW_seq (CW_region ?_))
                simp only [zZ, reduceIte, Nat.reduceLT, Int.reduceToNat, Int.reduceLE, Int.reduceEq, Int.reduceLT, Nat.reduceEqDiff, Nat.reduceAdd, zTy, cat_str, cat_lit, lit_cat, hy3, b0, b2, b3, b4, b5, b6, b7]
                refine CW_cond false (by rfl) (fun h => by cases h) (fun _ => CW_skip ?_)
                simp only [zZ, reduceIte, Nat.reduceLT, Int.reduceToNat, Int.reduceLE, Int.reduceEq, Int.reduceLT, Nat.reduceEqDiff, Nat.reduceAdd]
                refine CW_seq (CW_seq (CW_region ?_))
                simp only [zZ, reduceIte, Nat.reduceLT, Int.reduceToNat, Int.reduceLE, Int.reduceEq, Int.reduceLT, Nat.reduceEqDiff, Nat.reduceAdd, zTy, cat_str, cat_lit, lit_cat, hy3, b0, b2, b3, b4, b5, b6, b7]
                refine CW_cond false (by rfl) (fun h => by cases h) (fun _ => CW_skip ?_)
                simp only [zZ, reduceIte, Nat.reduceLT, Int.reduceToNat, Int.reduceLE, Int.reduceEq, Int.reduceLT, Nat.reduceEqDiff, Nat.reduceAdd]
                refine CW_seq (CW_region ?_)
                simp only [zZ, reduceIte, Nat.reduceLT, Int.reduceToNat, Int.reduceLE, Int.reduceEq, Int.reduceLT, Nat.reduceEqDiff, Nat.reduceAdd, zTy, cat_str, cat_lit, lit_cat, hy3, b0, b2, b3, b4, b5, b6, b7]
                refine CW_cond false (by rfl) (fun h => by cases h) (fun _ => CW_skip ?_)
                simp only [zZ, reduceIte, Nat.reduceLT, Int.reduceToNat, Int.reduceLE, Int.reduceEq, Int.reduceLT, Nat.reduceEqDiff, Nat.reduceAdd]
                refine ⟨[1, 3, 4, 5], ?_⟩
                simp only [zZ, reduceIte, Nat.reduceLT, Int.reduceToNat, Int.reduceLE, Int.reduceEq, Int.reduceLT, Nat.reduceEqDiff, Nat.reduceAdd, keepF]
                exact ⟨M3, Thin.refl _, _, 0, rfl, hk3, by omega, by rw [stop]; simp [lineL, join_cons2, join_one], by decide, fun h => absurd rfl h⟩
            · have d1 : decide (((i + 1 : Nat) : Int) < (L.length : Int)) = false := decide_eq_false (by omega)
              simp only [zZ, reduceIte, Nat.reduceLT, Int.reduceToNat, Int.reduceLE, Int.reduceEq, Int.reduceLT, Nat.reduceEqDiff, Nat.reduceAdd, zTy, cat_str, cat_lit, lit_cat, hsc3, ti, d1, d3]
              refine CW_cond false (by rfl) (fun h => by cases h) (fun _ => CW_skip ?_)
              simp only [zZ, reduceIte, Nat.reduceLT, Int.reduceToNat, Int.reduceLE, Int.reduceEq, Int.reduceLT, Nat.reduceEqDiff, Nat.reduceAdd]
              replace stop := stop (by rw [List.drop_eq_nil_of_le (by omega)]; exact fun h => by cases h.1)
              have hlf := hlenT _ _ stop
              rw [List.length_append] at hlf
              refine CW_seq (CW_region ?_)
              simp only [zZ, reduceIte, Nat.reduceLT, Int.reduceToNat, Int.reduceLE, Int.reduceEq, Int.reduceLT, Nat.reduceEqDiff, Nat.reduceAdd, zTy, cat_str, cat_lit, lit_cat]
              refine ⟨(by simp only [siz_str, siz_lit, List.length_append, List.length_cons, List.length_nil]; omega), by kernel_rfl, _, rdigits_spec ((n + 1 : Nat) : Int) (by omega) (by omega) _, ?_⟩
              rintro _ M9 ⟨rfl, e9⟩
              replace e9 := e9.symm
              subst e9
              simp only [zZ, reduceIte, Nat.reduceLT, Int.reduceToNat, Int.reduceLE, Int.reduceEq, Int.reduceLT, Nat.reduceEqDiff, Nat.reduceAdd, zTy, cat_str, cat_lit, lit_cat]
              refine ⟨(by simp only [siz_str, siz_lit, List.length_append, List.length_cons, List.length_nil]; omega), (by simp only [siz_str, siz_lit, List.length_append, List.length_cons, List.length_nil]; omega), ?_⟩
              refine CW_region ?_
              simp only [zZ, reduceIte, Nat.reduceLT, Int.reduceToNat, Int.reduceLE, Int.reduceEq, Int.reduceLT, Nat.reduceEqDiff, Nat.reduceAdd, zTy, cat_str, cat_lit, lit_cat]
              refine CW_seq (CW_seq (CW_region ?_))
              simp only [zZ, reduceIte, Nat.reduceLT, Int.reduceToNat, Int.reduceLE, Int.reduceEq, Int.reduceLT, Nat.reduceEqDiff, Nat.reduceAdd, zTy, cat_str, cat_lit, lit_cat, hy3, b0, b2, b3, b4, b5, b6, b7]
              refine CW_cond false (by rfl) (fun h => by cases h) (fun _ => CW_skip ?_)
              simp only [zZ, reduceIte, Nat.reduceLT, Int.reduceToNat, Int.reduceLE, Int.reduceEq, Int.reduceLT, Nat.reduceEqDiff, Nat.reduceAdd]
              refine CW_seq (CW_seq (CW_region ?_))
              simp only [zZ, reduceIte, Nat.reduceLT, Int.reduceToNat, Int.reduceLE, Int.reduceEq, Int.reduceLT, Nat.reduceEqDiff, Nat.reduceAdd, zTy, cat_str, cat_lit, lit_cat, hy3, b0, b2, b3, b4, b5, b6, b7]
              refine CW_cond false (by rfl) (fun h => by cases h) (fun _ => CW_skip ?_)
              simp only [zZ, reduceIte, Nat.reduceLT, Int.reduceToNat, Int.reduceLE, Int.reduceEq, Int.reduceLT, Nat.reduceEqDiff, Nat.reduceAdd]
              refine CW_seq (CW_seq (CW_region ?_))
              simp only [zZ, reduceIte, Nat.reduceLT, Int.reduceToNat, Int.reduceLE, Int.reduceEq, Int.reduceLT, Nat.reduceEqDiff, Nat.reduceAdd, zTy, cat_str, cat_lit, lit_cat, hy3, b0, b2, b3, b4, b5, b6, b7]
              refine CW_cond false (by rfl) (fun h => by cases h) (fun _ => CW_skip ?_)
              simp only [zZ, reduceIte, Nat.reduceLT, Int.reduceToNat, Int.reduceLE, Int.reduceEq, Int.reduceLT, Nat.reduceEqDiff, Nat.reduceAdd]
              refine CW_seq (CW_seq (CW_region ?_))
              simp only [zZ, reduceIte, Nat.reduceLT, Int.reduceToNat, Int.reduceLE, Int.reduceEq, Int.reduceLT, Nat.reduceEqDiff, Nat.reduceAdd, zTy, cat_str, cat_lit, lit_cat, hy3, b0, b2, b3, b4, b5, b6, b7]
              refine CW_cond false (by rfl) (fun h => by cases h) (fun _ => CW_skip ?_)
              simp only [zZ, reduceIte, Nat.reduceLT, Int.reduceToNat, Int.reduceLE, Int.reduceEq, Int.reduceLT, Nat.reduceEqDiff, Nat.reduceAdd]
              refine CW_seq (CW_seq (CW_region ?_))
              simp only [zZ, reduceIte, Nat.reduceLT, Int.reduceToNat, Int.reduceLE, Int.reduceEq, Int.reduceLT, Nat.reduceEqDiff, Nat.reduceAdd, zTy, cat_str, cat_lit, lit_cat, hy3, b0, b2, b3, b4, b5, b6, b7]
              refine CW_cond false (by rfl) (fun h => by cases h) (fun _ => CW_skip ?_)
              simp only [zZ, reduceIte, Nat.reduceLT, Int.reduceToNat, Int.reduceLE, Int.reduceEq, Int.reduceLT, Nat.reduceEqDiff, Nat.reduceAdd]
              refine CW_seq (CW_region ?_)
              simp only [zZ, reduceIte, Nat.reduceLT, Int.reduceToNat, Int.reduceLE, Int.reduceEq, Int.reduceLT, Nat.reduceEqDiff, Nat.reduceAdd, zTy, cat_str, cat_lit, lit_cat, hy3, b0, b2, b3, b4, b5, b6, b7]
              refine CW_cond false (by rfl) (fun h => by cases h) (fun _ => CW_skip ?_)
              simp only [zZ, reduceIte, Nat.reduceLT, Int.reduceToNat, Int.reduceLE, Int.reduceEq, Int.reduceLT, Nat.reduceEqDiff, Nat.reduceAdd]
              refine ⟨[1, 3, 4, 5], ?_⟩
              simp only [zZ, reduceIte, Nat.reduceLT, Int.reduceToNat, Int.reduceLE, Int.reduceEq, Int.reduceLT, Nat.reduceEqDiff, Nat.reduceAdd, keepF]
              exact ⟨M3, Thin.refl _, _, 0, rfl, hk3, by omega, by rw [stop]; simp [lineL, join_cons2, join_one], by decide, fun h => absurd rfl h⟩
          · have d3 : decide (((n + 1 : Nat) : Int) < 1000) = false := decide_eq_false (by omega)
            simp only [zZ, reduceIte, Nat.reduceLT, Int.reduceToNat, Int.reduceLE, Int.reduceEq, Int.reduceLT, Nat.reduceEqDiff, Nat.reduceAdd, zTy, cat_str, cat_lit, lit_cat, d3]
            refine CW_cond false (by rfl) (fun h => by cases h) (fun _ => CW_skip ?_)
            simp only [zZ, reduceIte, Nat.reduceLT, Int.reduceToNat, Int.reduceLE, Int.reduceEq, Int.reduceLT, Nat.reduceEqDiff, Nat.reduceAdd]
            replace stop := stop (by exact fun h => q3 h.2)
            have hlf := hlenT _ _ stop
            rw [List.length_append] at hlf
            refine CW_seq (CW_region ?_)
            simp only [zZ, reduceIte, Nat.reduceLT, Int.reduceToNat, Int.reduceLE, Int.reduceEq, Int.reduceLT, Nat.reduceEqDiff, Nat.reduceAdd, zTy, cat_str, cat_lit, lit_cat]
            refine ⟨(by simp only [siz_str, siz_lit, List.length_append, List.length_cons, List.length_nil]; omega), by kernel_rfl, _, rdigits_spec ((n + 1 : Nat) : Int) (by omega) (by omega) _, ?_⟩
            rintro _ M9 ⟨rfl, e9⟩
            replace e9 := e9.symm
            subst e9
            simp only [zZ, reduceIte, Nat.reduceLT, Int.reduceToNat, Int.reduceLE, Int.reduceEq, Int.reduceLT, Nat.reduceEqDiff, Nat.reduceAdd, zTy, cat_str, cat_lit, lit_cat]
            refine ⟨(by simp only [siz_str, siz_lit, List.length_append, List.length_cons, List.length_nil]; omega), (by simp only [siz_str, siz_lit, List.length_append, List.length_cons, List.length_nil]; omega), ?_⟩
            refine CW_region ?_
            simp only [zZ, reduceIte, Nat.reduceLT, Int.reduceToNat, Int.reduceLE, Int.reduceEq, Int.reduceLT, Nat.reduceEqDiff, Nat.reduceAdd, zTy, cat_str, cat_lit, lit_cat]
            refine CW_seq (CW_seq (CW_region ?_))
            simp only [zZ, reduceIte, Nat.reduceLT, Int.reduceToNat, Int.reduceLE, Int.reduceEq, Int.reduceLT, Nat.reduceEqDiff, Nat.reduceAdd, zTy, cat_str, cat_lit, lit_cat, hy3, b0, b2, b3, b4, b5, b6, b7]
            refine CW_cond false (by rfl) (fun h => by cases h) (fun _ => CW_skip ?_)
            simp only [zZ, reduceIte, Nat.reduceLT, Int.reduceToNat, Int.reduceLE, Int.reduceEq, Int.reduceLT, Nat.reduceEqDiff, Nat.reduceAdd]
            refine CW_seq (CW_seq (CW_region ?_))
            simp only [zZ, reduceIte, Nat.reduceLT, Int.reduceToNat, Int.reduceLE, Int.reduceEq, Int.reduceLT, Nat.reduceEqDiff, Nat.reduceAdd, zTy, cat_str, cat_lit, lit_cat, hy3, b0, b2, b3, b4, b5, b6, b7]
            refine CW_cond false (by rfl) (fun h => by cases h) (fun _ => CW_skip ?_)
            simp only [zZ, reduceIte, Nat.reduceLT, Int.reduceToNat, Int.reduceLE, Int.reduceEq, Int.reduceLT, Nat.reduceEqDiff, Nat.reduceAdd]
            refine CW_seq (CW_seq (CW_region ?_))
            simp only [zZ, reduceIte, Nat.reduceLT, Int.reduceToNat, Int.reduceLE, Int.reduceEq, Int.reduceLT, Nat.reduceEqDiff, Nat.reduceAdd, zTy, cat_str, cat_lit, lit_cat, hy3, b0, b2, b3, b4, b5, b6, b7]
            refine CW_cond false (by rfl) (fun h => by cases h) (fun _ => CW_skip ?_)
            simp only [zZ, reduceIte, Nat.reduceLT, Int.reduceToNat, Int.reduceLE, Int.reduceEq, Int.reduceLT, Nat.reduceEqDiff, Nat.reduceAdd]
            refine CW_seq (CW_seq (CW_region ?_))
            simp only [zZ, reduceIte, Nat.reduceLT, Int.reduceToNat, Int.reduceLE, Int.reduceEq, Int.reduceLT, Nat.reduceEqDiff, Nat.reduceAdd, zTy, cat_str, cat_lit, lit_cat, hy3, b0, b2, b3, b4, b5, b6, b7]
            refine CW_cond false (by rfl) (fun h => by cases h) (fun _ => CW_skip ?_)
            simp only [zZ, reduceIte, Nat.reduceLT, Int.reduceToNat, Int.reduceLE, Int.reduceEq, Int.reduceLT, Nat.reduceEqDiff, Nat.reduceAdd]
            refine CW_seq (CW_seq (CW_region ?_))
            simp only [zZ, reduceIte, Nat.reduceLT, Int.reduceToNat, Int.reduceLE, Int.reduceEq, Int.reduceLT, Nat.reduceEqDiff, Nat.reduceAdd, zTy, cat_str, cat_lit, lit_cat, hy3, b0, b2, b3, b4, b5, b6, b7]
            refine CW_cond false (by rfl) (fun h => by cases h) (fun _ => CW_skip ?_)
            simp only [zZ, reduceIte, Nat.reduceLT, Int.reduceToNat, Int.reduceLE, Int.reduceEq, Int.reduceLT, Nat.reduceEqDiff, Nat.reduceAdd]
            refine CW_seq (CW_region ?_)
            simp only [zZ, reduceIte, Nat.reduceLT, Int.reduceToNat, Int.reduceLE, Int.reduceEq, Int.reduceLT, Nat.reduceEqDiff, Nat.reduceAdd, zTy, cat_str, cat_lit, lit_cat, hy3, b0, b2, b3, b4, b5, b6, b7]
            refine CW_cond false (by rfl) (fun h => by cases h) (fun _ => CW_skip ?_)
            simp only [zZ, reduceIte, Nat.reduceLT, Int.reduceToNat, Int.reduceLE, Int.reduceEq, Int.reduceLT, Nat.reduceEqDiff, Nat.reduceAdd]
            refine ⟨[1, 3, 4, 5], ?_⟩
            simp only [zZ, reduceIte, Nat.reduceLT, Int.reduceToNat, Int.reduceLE, Int.reduceEq, Int.reduceLT, Nat.reduceEqDiff, Nat.reduceAdd, keepF]
            exact ⟨M3, Thin.refl _, _, 0, rfl, hk3, by omega, by rw [stop]; simp [lineL, join_cons2, join_one], by decide, fun h => absurd rfl h⟩
        · have n1 : y.kind ≠ 1 := by simpa using h
          have hn0 : n = 0 := by
            apply Decidable.byContradiction
            intro h
            have := htk h
            rw [hdr] at this
            exact n1 (of_decide_eq_true this)
          subst hn0
          have hfin : T = t ++ (stepLine y ++ printB 0 (L.drop (i + 1))) := by rw [hTt, hdr, printB, if_neg n1]
          have hlf := hlenT _ _ hfin
          rw [List.length_append] at hlf
          simp only [zZ, reduceIte, Nat.reduceLT, Int.reduceToNat, Int.reduceLE, Int.reduceEq, Int.reduceLT, Nat.reduceEqDiff, Nat.reduceAdd]
          by_cases k0 : y.kind = 0
          · have hk : y.kind = 0 := k0
            have b0 : (y.kind == 0) = true := by rw [hk]; rfl
            have b2 : (y.kind == 2) = false := by rw [hk]; rfl
            have b3 : (y.kind == 3) = false := by rw [hk]; rfl
            have b4 : (y.kind == 4) = false := by rw [hk]; rfl
            have b5 : (y.kind == 5) = false := by rw [hk]; rfl
            have b6 : (y.kind == 6) = false := by rw [hk]; rfl
            have b7 : (y.kind == 7) = false := by rw [hk]; rfl
            have he : stepLine y = lineL ([112, 97, 99, 107] :: y.files.map fileW) := by unfold stepLine; rw [if_pos k0]
            have hpk : lineL ([112, 97, 99, 107] :: y.files.map fileW) = [112, 97, 99, 107] ++ y.files.flatMap fileS ++ [10] := by
              unfold lineL
              rw [Lib.join_cons, Lib.joinTail, List.map_map, List.flatMap_def]
              rfl
            rw [he] at hlf
            refine CW_seq (CW_seq (CW_region ?_))
            simp only [zZ, reduceIte, Nat.reduceLT, Int.reduceToNat, Int.reduceLE, Int.reduceEq, Int.reduceLT, Nat.reduceEqDiff, Nat.reduceAdd, zTy, cat_str, cat_lit, lit_cat, hy3, b0, b2, b3, b4, b5, b6, b7]
            refine CW_cond true (by rfl) (fun _ => ?_) (fun h => by cases h)
            refine CW_seq (CW_region ?_)
            simp only [zZ, reduceIte, Nat.reduceLT, Int.reduceToNat, Int.reduceLE, Int.reduceEq, Int.reduceLT, Nat.reduceEqDiff, Nat.reduceAdd, zTy, cat_str, cat_lit, lit_cat]
            refine ⟨(by simp only [siz_str, siz_lit, List.length_append, List.length_cons, List.length_nil]; omega), ?_⟩
            refine CW_seq (CW_seq (CW_region ?_))
            simp only [zZ, reduceIte, Nat.reduceLT, Int.reduceToNat, Int.reduceLE, Int.reduceEq, Int.reduceLT, Nat.reduceEqDiff, Nat.reduceAdd, zTy, cat_str, cat_lit, lit_cat]
            refine CW_block (MW_loop (fun j f M' => ∃ tt : Nat, tt + j = y.files.length ∧ f = [(1, .pointer (some ⟨m.size, 0, none⟩)), (3, .string (str (t ++ [112, 97, 99, 107] ++ (y.files.take tt).flatMap fileS))), (4, .int .i64 ((0 : Nat) : Int)), (5, .int .i64 ((i : Nat) : Int)), (6, .pointer (some ⟨M.size, 0, none⟩)), (7, .int .i64 ((tt : Nat) : Int))] ∧ M' = M3) y.files.length ?_ ?_)
            · refine ⟨[1, 3, 4, 5, 6, 7], ?_⟩
              simp only [zZ, reduceIte, Nat.reduceLT, Int.reduceToNat, Int.reduceLE, Int.reduceEq, Int.reduceLT, Nat.reduceEqDiff, Nat.reduceAdd, keepF]
              exact ⟨M3, Thin.refl _, 0, by omega, by simp, rfl⟩
            · rintro j f M' ⟨tt, htj, rfl, hM'⟩
              replace hM' := hM'.symm
              subst hM'
              refine CW_seq (CW_seq (CW_region ?_))
              simp only [zZ, reduceIte, Nat.reduceLT, Int.reduceToNat, Int.reduceLE, Int.reduceEq, Int.reduceLT, Nat.reduceEqDiff, Nat.reduceAdd, zTy, cat_str, cat_lit, lit_cat, hy3]
              refine CW_cond (decide ((tt : Int) < (y.files.length : Int))) (by rfl) (fun h => CW_skip ?_) (fun h => CW_exit ?_)
              · simp only [zZ, reduceIte, Nat.reduceLT, Int.reduceToNat, Int.reduceLE, Int.reduceEq, Int.reduceLT, Nat.reduceEqDiff, Nat.reduceAdd]
                have htl : tt < y.files.length := by have := of_decide_eq_true h; omega
                have t0 : (0 : Int) ≤ (tt : Int) := by omega
                have t1 : (tt : Int) < (y.files.length : Int) := by omega
                obtain ⟨gv, rv, hva, hgv⟩ := hV.rd.at (by omega)
                have hgvM : M3.get gv = some (.cells rv 2 (y.files.flatMap fileC)) := hk3.1 _ _ (by have := get_live hgv; omega) (hold0 _ _ hgv)
                obtain ⟨A, hA⟩ : ∃ A, y.files[tt]? = some A := ⟨_, List.getElem?_eq_getElem htl⟩
                have c0 : (y.files.flatMap fileC)[tt * 2]? = some (.string (str A.1)) := flatMap_get (fun a _ => fileC_len a) hA (o := 0) (by decide)
                have c1 : (y.files.flatMap fileC)[tt * 2 + 1]? = some (.string (str A.2)) := flatMap_get (fun a _ => fileC_len a) hA (o := 1) (by decide)
                have hAok := hyok.file A (List.mem_of_getElem? hA)
                have xi : IntKind.i64.wrap ((tt : Int) + 1) = ((tt + 1 : Nat) : Int) := by
                  have := hyok.files
                  rw [wr (by omega) (by omega)]; omega
                have hv1 := hexV_len A.1
                have hv2 := hexV_len A.2
                have hpre : (List.flatMap fileS (y.files.take tt)).length ≤ (List.flatMap fileS y.files).length := by
                  conv => rhs; rw [← List.take_append_drop tt y.files, List.flatMap_append, List.length_append]
                  exact Nat.le_add_right _ _
                rw [hpk] at hlf
                simp only [List.length_append, List.length_cons, List.length_nil] at hlf
                subst hva
                refine CW_seq (CW_block ?_)
                refine CW_draw hmix 18 (by kernel_rfl) (by kernel_rfl) ?_
                simp only [zZ, reduceIte, Nat.reduceLT, Int.reduceToNat, Int.reduceLE, Int.reduceEq, Int.reduceLT, Nat.reduceEqDiff, Nat.reduceAdd, zTy, cat_str, cat_lit, lit_cat, hy3, t0, t1, and_self, hgvM, c0]
                refine ⟨(by simp only [siz_str, siz_lit, List.length_append, List.length_cons, List.length_nil]; omega), by kernel_rfl, _, rhex_spec (str A.1) (by rw [Go.Proofs.YthcleiegefhmdaaDoor.str_size]; exact hAok.1) _, ?_⟩
                refine ⟨by decide, ?_⟩
                simp only [zZ, reduceIte, Nat.reduceLT, Int.reduceToNat, Int.reduceLE, Int.reduceEq, Int.reduceLT, Nat.reduceEqDiff, Nat.reduceAdd, zTy, cat_str, cat_lit, lit_cat, hy3, t0, t1, and_self, hgvM, c1, str_data]
                refine ⟨(by simp only [siz_str, siz_lit, List.length_append, List.length_cons, List.length_nil]; omega), (by simp only [siz_str, siz_lit, List.length_append, List.length_cons, List.length_nil]; omega), by kernel_rfl, _, rhex_spec (str A.2) (by rw [Go.Proofs.YthcleiegefhmdaaDoor.str_size]; exact hAok.2) _, ?_⟩
                refine ⟨by decide, ?_⟩
                simp only [zZ, reduceIte, Nat.reduceLT, Int.reduceToNat, Int.reduceLE, Int.reduceEq, Int.reduceLT, Nat.reduceEqDiff, Nat.reduceAdd, zTy, cat_str, cat_lit, lit_cat, str_data]
                refine ⟨(by simp only [siz_str, siz_lit, List.length_append, List.length_cons, List.length_nil]; omega), ?_⟩
                refine CW_region ?_
                simp only [zZ, reduceIte, Nat.reduceLT, Int.reduceToNat, Int.reduceLE, Int.reduceEq, Int.reduceLT, Nat.reduceEqDiff, Nat.reduceAdd, zTy, cat_str, cat_lit, lit_cat, xi]
                refine ⟨[1, 3, 4, 5, 6, 7], ?_⟩
                simp only [zZ, reduceIte, Nat.reduceLT, Int.reduceToNat, Int.reduceLE, Int.reduceEq, Int.reduceLT, Nat.reduceEqDiff, Nat.reduceAdd, keepF]
                refine ⟨M3, Thin.refl _, j - 1, ⟨tt + 1, by omega, ?_, rfl⟩, by omega⟩
                rw [List.take_add_one, hA]
                simp [fileS, fileW]
              · simp only [zZ, reduceIte, Nat.reduceLT, Int.reduceToNat, Int.reduceLE, Int.reduceEq, Int.reduceLT, Nat.reduceEqDiff, Nat.reduceAdd]
                have htl : tt = y.files.length := by have := of_decide_eq_false h; omega
                subst htl
                rw [List.take_length]
                rw [hpk] at hlf he
                simp only [List.length_append, List.length_cons, List.length_nil] at hlf
                refine CW_region ?_
                simp only [zZ, reduceIte, Nat.reduceLT, Int.reduceToNat, Int.reduceLE, Int.reduceEq, Int.reduceLT, Nat.reduceEqDiff, Nat.reduceAdd, zTy, cat_str, cat_lit, lit_cat]
                refine ⟨(by simp only [siz_str, siz_lit, List.length_append, List.length_cons, List.length_nil]; omega), ?_⟩
                refine CW_seq (CW_seq (CW_region ?_))
                simp only [zZ, reduceIte, Nat.reduceLT, Int.reduceToNat, Int.reduceLE, Int.reduceEq, Int.reduceLT, Nat.reduceEqDiff, Nat.reduceAdd, zTy, cat_str, cat_lit, lit_cat, hy3, b0, b2, b3, b4, b5, b6, b7]
                refine CW_cond false (by rfl) (fun h => by cases h) (fun _ => CW_skip ?_)
                simp only [zZ, reduceIte, Nat.reduceLT, Int.reduceToNat, Int.reduceLE, Int.reduceEq, Int.reduceLT, Nat.reduceEqDiff, Nat.reduceAdd]
                refine CW_seq (CW_seq (CW_region ?_))
                simp only [zZ, reduceIte, Nat.reduceLT, Int.reduceToNat, Int.reduceLE, Int.reduceEq, Int.reduceLT, Nat.reduceEqDiff, Nat.reduceAdd, zTy, cat_str, cat_lit, lit_cat, hy3, b0, b2, b3, b4, b5, b6, b7]
                refine CW_cond false (by rfl) (fun h => by cases h) (fun _ => CW_skip ?_)
                simp only [zZ, reduceIte, Nat.reduceLT, Int.reduceToNat, Int.reduceLE, Int.reduceEq, Int.reduceLT, Nat.reduceEqDiff, Nat.reduceAdd]
                refine CW_seq (CW_seq (CW_region ?_))
                simp only [zZ, reduceIte, Nat.reduceLT, Int.reduceToNat, Int.reduceLE, Int.reduceEq, Int.reduceLT, Nat.reduceEqDiff, Nat.reduceAdd, zTy, cat_str, cat_lit, lit_cat, hy3, b0, b2, b3, b4, b5, b6, b7]
                refine CW_cond false (by rfl) (fun h => by cases h) (fun _ => CW_skip ?_)
                simp only [zZ, reduceIte, Nat.reduceLT, Int.reduceToNat, Int.reduceLE, Int.reduceEq, Int.reduceLT, Nat.reduceEqDiff, Nat.reduceAdd]
                refine CW_seq (CW_seq (CW_region ?_))
                simp only [zZ, reduceIte, Nat.reduceLT, Int.reduceToNat, Int.reduceLE, Int.reduceEq, Int.reduceLT, Nat.reduceEqDiff, Nat.reduceAdd, zTy, cat_str, cat_lit, lit_cat, hy3, b0, b2, b3, b4, b5, b6, b7]
                refine CW_cond false (by rfl) (fun h => by cases h) (fun _ => CW_skip ?_)
                simp only [zZ, reduceIte, Nat.reduceLT, Int.reduceToNat, Int.reduceLE, Int.reduceEq, Int.reduceLT, Nat.reduceEqDiff, Nat.reduceAdd]
                refine CW_seq (CW_region ?_)
                simp only [zZ, reduceIte, Nat.reduceLT, Int.reduceToNat, Int.reduceLE, Int.reduceEq, Int.reduceLT, Nat.reduceEqDiff, Nat.reduceAdd, zTy, cat_str, cat_lit, lit_cat, hy3, b0, b2, b3, b4, b5, b6, b7]
                refine CW_cond false (by rfl) (fun h => by cases h) (fun _ => CW_skip ?_)
                simp only [zZ, reduceIte, Nat.reduceLT, Int.reduceToNat, Int.reduceLE, Int.reduceEq, Int.reduceLT, Nat.reduceEqDiff, Nat.reduceAdd]
                refine ⟨[1, 3, 4, 5], ?_⟩
                simp only [zZ, reduceIte, Nat.reduceLT, Int.reduceToNat, Int.reduceLE, Int.reduceEq, Int.reduceLT, Nat.reduceEqDiff, Nat.reduceAdd, keepF]
                exact ⟨M3, Thin.refl _, _, 0, rfl, hk3, by omega, by rw [hfin, he]; simp, by decide, fun h => absurd rfl h⟩
          by_cases hk : y.kind = 2
          · have w35 : IntKind.i64.wrap (3 - y.kind) = 3 - y.kind := wrs (by omega) (by omega)
            have b0 : (y.kind == 0) = false := by rw [hk]; rfl
            have b2 : (y.kind == 2) = true := by rw [hk]; rfl
            have b3 : (y.kind == 3) = false := by rw [hk]; rfl
            have b4 : (y.kind == 4) = false := by rw [hk]; rfl
            have b5 : (y.kind == 5) = false := by rw [hk]; rfl
            have b6 : (y.kind == 6) = false := by rw [hk]; rfl
            have b7 : (y.kind == 7) = false := by rw [hk]; rfl
            have he : stepLine y = lineL [[102, 117, 115, 101], sideL (3 - y.kind), Lib.itoa y.n] := by unfold stepLine; rw [if_neg (by omega), if_pos (.inl hk)]
            rw [he] at hlf
            refine CW_seq (CW_seq (CW_region ?_))
            simp only [zZ, reduceIte, Nat.reduceLT, Int.reduceToNat, Int.reduceLE, Int.reduceEq, Int.reduceLT, Nat.reduceEqDiff, Nat.reduceAdd, zTy, cat_str, cat_lit, lit_cat, hy3, b0, b2, b3, b4, b5, b6, b7]
            refine CW_cond false (by rfl) (fun h => by cases h) (fun _ => CW_skip ?_)
            simp only [zZ, reduceIte, Nat.reduceLT, Int.reduceToNat, Int.reduceLE, Int.reduceEq, Int.reduceLT, Nat.reduceEqDiff, Nat.reduceAdd]
            refine CW_seq (CW_seq (CW_region ?_))
            simp only [zZ, reduceIte, Nat.reduceLT, Int.reduceToNat, Int.reduceLE, Int.reduceEq, Int.reduceLT, Nat.reduceEqDiff, Nat.reduceAdd, zTy, cat_str, cat_lit, lit_cat, hy3, b0, b2, b3, b4, b5, b6, b7]
            refine CW_cond true (by rfl) (fun _ => ?_) (fun h => by cases h)
            refine CW_draw hmix 11 (by kernel_rfl) (by kernel_rfl) ?_
            simp only [zZ, reduceIte, Nat.reduceLT, Int.reduceToNat, Int.reduceLE, Int.reduceEq, Int.reduceLT, Nat.reduceEqDiff, Nat.reduceAdd, zTy, cat_str, cat_lit, lit_cat, hy3, w35]
            refine ⟨(by have := sideL_len (3 - y.kind); simp only [siz_str, siz_lit, List.length_append, List.length_cons, List.length_nil]; omega), by kernel_rfl, _, rname_spec (3 - y.kind) _, ?_⟩
            refine ⟨by decide, ?_⟩
            simp only [zZ, reduceIte, Nat.reduceLT, Int.reduceToNat, Int.reduceLE, Int.reduceEq, Int.reduceLT, Nat.reduceEqDiff, Nat.reduceAdd, zTy, cat_str, cat_lit, lit_cat, hy3, w35, str_data]
            refine ⟨(by have := sideL_len (3 - y.kind); simp only [siz_str, siz_lit, List.length_append, List.length_cons, List.length_nil]; omega), (by have := sideL_len (3 - y.kind); simp only [siz_str, siz_lit, List.length_append, List.length_cons, List.length_nil]; omega), by kernel_rfl, _, rdigits_spec y.n (by omega) hyok.n.2 _, ?_⟩
            refine ⟨by decide, ?_⟩
            simp only [zZ, reduceIte, Nat.reduceLT, Int.reduceToNat, Int.reduceLE, Int.reduceEq, Int.reduceLT, Nat.reduceEqDiff, Nat.reduceAdd, zTy, cat_str, cat_lit, lit_cat, hy3, w35, str_data]
            refine ⟨(by have := sideL_len (3 - y.kind); simp only [siz_str, siz_lit, List.length_append, List.length_cons, List.length_nil]; omega), (by have := sideL_len (3 - y.kind); simp only [siz_str, siz_lit, List.length_append, List.length_cons, List.length_nil]; omega), ?_⟩
            refine CW_seq (CW_seq (CW_region ?_))
            simp only [zZ, reduceIte, Nat.reduceLT, Int.reduceToNat, Int.reduceLE, Int.reduceEq, Int.reduceLT, Nat.reduceEqDiff, Nat.reduceAdd, zTy, cat_str, cat_lit, lit_cat, hy3, b0, b2, b3, b4, b5, b6, b7]
            refine CW_cond false (by rfl) (fun h => by cases h) (fun _ => CW_skip ?_)
            simp only [zZ, reduceIte, Nat.reduceLT, Int.reduceToNat, Int.reduceLE, Int.reduceEq, Int.reduceLT, Nat.reduceEqDiff, Nat.reduceAdd]
            refine CW_seq (CW_seq (CW_region ?_))
            simp only [zZ, reduceIte, Nat.reduceLT, Int.reduceToNat, Int.reduceLE, Int.reduceEq, Int.reduceLT, Nat.reduceEqDiff, Nat.reduceAdd, zTy, cat_str, cat_lit, lit_cat, hy3, b0, b2, b3, b4, b5, b6, b7]
            refine CW_cond false (by rfl) (fun h => by cases h) (fun _ => CW_skip ?_)
            simp only [zZ, reduceIte, Nat.reduceLT, Int.reduceToNat, Int.reduceLE, Int.reduceEq, Int.reduceLT, Nat.reduceEqDiff, Nat.reduceAdd]
            refine CW_seq (CW_seq (CW_region ?_))
            simp only [zZ, reduceIte, Nat.reduceLT, Int.reduceToNat, Int.reduceLE, Int.reduceEq, Int.reduceLT, Nat.reduceEqDiff, Nat.reduceAdd, zTy, cat_str, cat_lit, lit_cat, hy3, b0, b2, b3, b4, b5, b6, b7]
            refine CW_cond false (by rfl) (fun h => by cases h) (fun _ => CW_skip ?_)
            simp only [zZ, reduceIte, Nat.reduceLT, Int.reduceToNat, Int.reduceLE, Int.reduceEq, Int.reduceLT, Nat.reduceEqDiff, Nat.reduceAdd]
            refine CW_seq (CW_region ?_)
            simp only [zZ, reduceIte, Nat.reduceLT, Int.reduceToNat, Int.reduceLE, Int.reduceEq, Int.reduceLT, Nat.reduceEqDiff, Nat.reduceAdd, zTy, cat_str, cat_lit, lit_cat, hy3, b0, b2, b3, b4, b5, b6, b7]
            refine CW_cond false (by rfl) (fun h => by cases h) (fun _ => CW_skip ?_)
            simp only [zZ, reduceIte, Nat.reduceLT, Int.reduceToNat, Int.reduceLE, Int.reduceEq, Int.reduceLT, Nat.reduceEqDiff, Nat.reduceAdd]
            refine ⟨[1, 3, 4, 5], ?_⟩
            simp only [zZ, reduceIte, Nat.reduceLT, Int.reduceToNat, Int.reduceLE, Int.reduceEq, Int.reduceLT, Nat.reduceEqDiff, Nat.reduceAdd, keepF]
            exact ⟨M3, Thin.refl _, _, 0, rfl, hk3, by omega, by rw [hfin, he]; simp [lineL, join_cons2, join_one], by decide, fun h => absurd rfl h⟩
          by_cases hk : y.kind = 3
          · have w35 : IntKind.i64.wrap (3 - y.kind) = 3 - y.kind := wrs (by omega) (by omega)
            have b0 : (y.kind == 0) = false := by rw [hk]; rfl
            have b2 : (y.kind == 2) = false := by rw [hk]; rfl
            have b3 : (y.kind == 3) = true := by rw [hk]; rfl
            have b4 : (y.kind == 4) = false := by rw [hk]; rfl
            have b5 : (y.kind == 5) = false := by rw [hk]; rfl
            have b6 : (y.kind == 6) = false := by rw [hk]; rfl
            have b7 : (y.kind == 7) = false := by rw [hk]; rfl
            have he : stepLine y = lineL [[102, 117, 115, 101], sideL (3 - y.kind), Lib.itoa y.n] := by unfold stepLine; rw [if_neg (by omega), if_pos (.inr hk)]
            rw [he] at hlf
            refine CW_seq (CW_seq (CW_region ?_))
            simp only [zZ, reduceIte, Nat.reduceLT, Int.reduceToNat, Int.reduceLE, Int.reduceEq, Int.reduceLT, Nat.reduceEqDiff, Nat.reduceAdd, zTy, cat_str, cat_lit, lit_cat, hy3, b0, b2, b3, b4, b5, b6, b7]
            refine CW_cond false (by rfl) (fun h => by cases h) (fun _ => CW_skip ?_)
            simp only [zZ, reduceIte, Nat.reduceLT, Int.reduceToNat, Int.reduceLE, Int.reduceEq, Int.reduceLT, Nat.reduceEqDiff, Nat.reduceAdd]
            refine CW_seq (CW_seq (CW_region ?_))
            simp only [zZ, reduceIte, Nat.reduceLT, Int.reduceToNat, Int.reduceLE, Int.reduceEq, Int.reduceLT, Nat.reduceEqDiff, Nat.reduceAdd, zTy, cat_str, cat_lit, lit_cat, hy3, b0, b2, b3, b4, b5, b6, b7]
            refine CW_cond true (by rfl) (fun _ => ?_) (fun h => by cases h)
            refine CW_draw hmix 11 (by kernel_rfl) (by kernel_rfl) ?_
            simp only [zZ, reduceIte, Nat.reduceLT, Int.reduceToNat, Int.reduceLE, Int.reduceEq, Int.reduceLT, Nat.reduceEqDiff, Nat.reduceAdd, zTy, cat_str, cat_lit, lit_cat, hy3, w35]
            refine ⟨(by have := sideL_len (3 - y.kind); simp only [siz_str, siz_lit, List.length_append, List.length_cons, List.length_nil]; omega), by kernel_rfl, _, rname_spec (3 - y.kind) _, ?_⟩
            refine ⟨by decide, ?_⟩
            simp only [zZ, reduceIte, Nat.reduceLT, Int.reduceToNat, Int.reduceLE, Int.reduceEq, Int.reduceLT, Nat.reduceEqDiff, Nat.reduceAdd, zTy, cat_str, cat_lit, lit_cat, hy3, w35, str_data]
            refine ⟨(by have := sideL_len (3 - y.kind); simp only [siz_str, siz_lit, List.length_append, List.length_cons, List.length_nil]; omega), (by have := sideL_len (3 - y.kind); simp only [siz_str, siz_lit, List.length_append, List.length_cons, List.length_nil]; omega), by kernel_rfl, _, rdigits_spec y.n (by omega) hyok.n.2 _, ?_⟩
            refine ⟨by decide, ?_⟩
            simp only [zZ, reduceIte, Nat.reduceLT, Int.reduceToNat, Int.reduceLE, Int.reduceEq, Int.reduceLT, Nat.reduceEqDiff, Nat.reduceAdd, zTy, cat_str, cat_lit, lit_cat, hy3, w35, str_data]
            refine ⟨(by have := sideL_len (3 - y.kind); simp only [siz_str, siz_lit, List.length_append, List.length_cons, List.length_nil]; omega), (by have := sideL_len (3 - y.kind); simp only [siz_str, siz_lit, List.length_append, List.length_cons, List.length_nil]; omega), ?_⟩
            refine CW_seq (CW_seq (CW_region ?_))
            simp only [zZ, reduceIte, Nat.reduceLT, Int.reduceToNat, Int.reduceLE, Int.reduceEq, Int.reduceLT, Nat.reduceEqDiff, Nat.reduceAdd, zTy, cat_str, cat_lit, lit_cat, hy3, b0, b2, b3, b4, b5, b6, b7]
            refine CW_cond false (by rfl) (fun h => by cases h) (fun _ => CW_skip ?_)
            simp only [zZ, reduceIte, Nat.reduceLT, Int.reduceToNat, Int.reduceLE, Int.reduceEq, Int.reduceLT, Nat.reduceEqDiff, Nat.reduceAdd]
            refine CW_seq (CW_seq (CW_region ?_))
            simp only [zZ, reduceIte, Nat.reduceLT, Int.reduceToNat, Int.reduceLE, Int.reduceEq, Int.reduceLT, Nat.reduceEqDiff, Nat.reduceAdd, zTy, cat_str, cat_lit, lit_cat, hy3, b0, b2, b3, b4, b5, b6, b7]
            refine CW_cond false (by rfl) (fun h => by cases h) (fun _ => CW_skip ?_)
            simp only [zZ, reduceIte, Nat.reduceLT, Int.reduceToNat, Int.reduceLE, Int.reduceEq, Int.reduceLT, Nat.reduceEqDiff, Nat.reduceAdd]
            refine CW_seq (CW_seq (CW_region ?_))
            simp only [zZ, reduceIte, Nat.reduceLT, Int.reduceToNat, Int.reduceLE, Int.reduceEq, Int.reduceLT, Nat.reduceEqDiff, Nat.reduceAdd, zTy, cat_str, cat_lit, lit_cat, hy3, b0, b2, b3, b4, b5, b6, b7]
            refine CW_cond false (by rfl) (fun h => by cases h) (fun _ => CW_skip ?_)
            simp only [zZ, reduceIte, Nat.reduceLT, Int.reduceToNat, Int.reduceLE, Int.reduceEq, Int.reduceLT, Nat.reduceEqDiff, Nat.reduceAdd]
            refine CW_seq (CW_region ?_)
            simp only [zZ, reduceIte, Nat.reduceLT, Int.reduceToNat, Int.reduceLE, Int.reduceEq, Int.reduceLT, Nat.reduceEqDiff, Nat.reduceAdd, zTy, cat_str, cat_lit, lit_cat, hy3, b0, b2, b3, b4, b5, b6, b7]
            refine CW_cond false (by rfl) (fun h => by cases h) (fun _ => CW_skip ?_)
            simp only [zZ, reduceIte, Nat.reduceLT, Int.reduceToNat, Int.reduceLE, Int.reduceEq, Int.reduceLT, Nat.reduceEqDiff, Nat.reduceAdd]
            refine ⟨[1, 3, 4, 5], ?_⟩
            simp only [zZ, reduceIte, Nat.reduceLT, Int.reduceToNat, Int.reduceLE, Int.reduceEq, Int.reduceLT, Nat.reduceEqDiff, Nat.reduceAdd, keepF]
            exact ⟨M3, Thin.refl _, _, 0, rfl, hk3, by omega, by rw [hfin, he]; simp [lineL, join_cons2, join_one], by decide, fun h => absurd rfl h⟩
          by_cases hk : y.kind = 4
          · have w35 : IntKind.i64.wrap (5 - y.kind) = 5 - y.kind := wrs (by omega) (by omega)
            have b0 : (y.kind == 0) = false := by rw [hk]; rfl
            have b2 : (y.kind == 2) = false := by rw [hk]; rfl
            have b3 : (y.kind == 3) = false := by rw [hk]; rfl
            have b4 : (y.kind == 4) = true := by rw [hk]; rfl
            have b5 : (y.kind == 5) = false := by rw [hk]; rfl
            have b6 : (y.kind == 6) = false := by rw [hk]; rfl
            have b7 : (y.kind == 7) = false := by rw [hk]; rfl
            have he : stepLine y = lineL [[99, 114, 97, 115, 104], sideL (5 - y.kind), Lib.itoa y.n] := by unfold stepLine; rw [if_neg (by omega), if_neg (by omega), if_pos (.inl hk)]
            rw [he] at hlf
            refine CW_seq (CW_seq (CW_region ?_))
            simp only [zZ, reduceIte, Nat.reduceLT, Int.reduceToNat, Int.reduceLE, Int.reduceEq, Int.reduceLT, Nat.reduceEqDiff, Nat.reduceAdd, zTy, cat_str, cat_lit, lit_cat, hy3, b0, b2, b3, b4, b5, b6, b7]
            refine CW_cond false (by rfl) (fun h => by cases h) (fun _ => CW_skip ?_)
            simp only [zZ, reduceIte, Nat.reduceLT, Int.reduceToNat, Int.reduceLE, Int.reduceEq, Int.reduceLT, Nat.reduceEqDiff, Nat.reduceAdd]
            refine CW_seq (CW_seq (CW_region ?_))
            simp only [zZ, reduceIte, Nat.reduceLT, Int.reduceToNat, Int.reduceLE, Int.reduceEq, Int.reduceLT, Nat.reduceEqDiff, Nat.reduceAdd, zTy, cat_str, cat_lit, lit_cat, hy3, b0, b2, b3, b4, b5, b6, b7]
            refine CW_cond false (by rfl) (fun h => by cases h) (fun _ => CW_skip ?_)
            simp only [zZ, reduceIte, Nat.reduceLT, Int.reduceToNat, Int.reduceLE, Int.reduceEq, Int.reduceLT, Nat.reduceEqDiff, Nat.reduceAdd]
            refine CW_seq (CW_seq (CW_region ?_))
            simp only [zZ, reduceIte, Nat.reduceLT, Int.reduceToNat, Int.reduceLE, Int.reduceEq, Int.reduceLT, Nat.reduceEqDiff, Nat.reduceAdd, zTy, cat_str, cat_lit, lit_cat, hy3, b0, b2, b3, b4, b5, b6, b7]
            refine CW_cond true (by rfl) (fun _ => ?_) (fun h => by cases h)
            refine CW_draw hmix 11 (by kernel_rfl) (by kernel_rfl) ?_
            simp only [zZ, reduceIte, Nat.reduceLT, Int.reduceToNat, Int.reduceLE, Int.reduceEq, Int.reduceLT, Nat.reduceEqDiff, Nat.reduceAdd, zTy, cat_str, cat_lit, lit_cat, hy3, w35]
            refine ⟨(by have := sideL_len (5 - y.kind); simp only [siz_str, siz_lit, List.length_append, List.length_cons, List.length_nil]; omega), by kernel_rfl, _, rname_spec (5 - y.kind) _, ?_⟩
            refine ⟨by decide, ?_⟩
            simp only [zZ, reduceIte, Nat.reduceLT, Int.reduceToNat, Int.reduceLE, Int.reduceEq, Int.reduceLT, Nat.reduceEqDiff, Nat.reduceAdd, zTy, cat_str, cat_lit, lit_cat, hy3, w35, str_data]
            refine ⟨(by have := sideL_len (5 - y.kind); simp only [siz_str, siz_lit, List.length_append, List.length_cons, List.length_nil]; omega), (by have := sideL_len (5 - y.kind); simp only [siz_str, siz_lit, List.length_append, List.length_cons, List.length_nil]; omega), by kernel_rfl, _, rdigits_spec y.n (by omega) hyok.n.2 _, ?_⟩
            refine ⟨by decide, ?_⟩
            simp only [zZ, reduceIte, Nat.reduceLT, Int.reduceToNat, Int.reduceLE, Int.reduceEq, Int.reduceLT, Nat.reduceEqDiff, Nat.reduceAdd, zTy, cat_str, cat_lit, lit_cat, hy3, w35, str_data]
            refine ⟨(by have := sideL_len (5 - y.kind); simp only [siz_str, siz_lit, List.length_append, List.length_cons, List.length_nil]; omega), (by have := sideL_len (5 - y.kind); simp only [siz_str, siz_lit, List.length_append, List.length_cons, List.length_nil]; omega), ?_⟩
            refine CW_seq (CW_seq (CW_region ?_))
            simp only [zZ, reduceIte, Nat.reduceLT, Int.reduceToNat, Int.reduceLE, Int.reduceEq, Int.reduceLT, Nat.reduceEqDiff, Nat.reduceAdd, zTy, cat_str, cat_lit, lit_cat, hy3, b0, b2, b3, b4, b5, b6, b7]
            refine CW_cond false (by rfl) (fun h => by cases h) (fun _ => CW_skip ?_)
            simp only [zZ, reduceIte, Nat.reduceLT, Int.reduceToNat, Int.reduceLE, Int.reduceEq, Int.reduceLT, Nat.reduceEqDiff, Nat.reduceAdd]
            refine CW_seq (CW_seq (CW_region ?_))
            simp only [zZ, reduceIte, Nat.reduceLT, Int.reduceToNat, Int.reduceLE, Int.reduceEq, Int.reduceLT, Nat.reduceEqDiff, Nat.reduceAdd, zTy, cat_str, cat_lit, lit_cat, hy3, b0, b2, b3, b4, b5, b6, b7]
            refine CW_cond false (by rfl) (fun h => by cases h) (fun _ => CW_skip ?_)
            simp only [zZ, reduceIte, Nat.reduceLT, Int.reduceToNat, Int.reduceLE, Int.reduceEq, Int.reduceLT, Nat.reduceEqDiff, Nat.reduceAdd]
            refine CW_seq (CW_region ?_)
            simp only [zZ, reduceIte, Nat.reduceLT, Int.reduceToNat, Int.reduceLE, Int.reduceEq, Int.reduceLT, Nat.reduceEqDiff, Nat.reduceAdd, zTy, cat_str, cat_lit, lit_cat, hy3, b0, b2, b3, b4, b5, b6, b7]
            refine CW_cond false (by rfl) (fun h => by cases h) (fun _ => CW_skip ?_)
            simp only [zZ, reduceIte, Nat.reduceLT, Int.reduceToNat, Int.reduceLE, Int.reduceEq, Int.reduceLT, Nat.reduceEqDiff, Nat.reduceAdd]
            refine ⟨[1, 3, 4, 5], ?_⟩
            simp only [zZ, reduceIte, Nat.reduceLT, Int.reduceToNat, Int.reduceLE, Int.reduceEq, Int.reduceLT, Nat.reduceEqDiff, Nat.reduceAdd, keepF]
            exact ⟨M3, Thin.refl _, _, 0, rfl, hk3, by omega, by rw [hfin, he]; simp [lineL, join_cons2, join_one], by decide, fun h => absurd rfl h⟩
          by_cases hk : y.kind = 5
          · have w35 : IntKind.i64.wrap (5 - y.kind) = 5 - y.kind := wrs (by omega) (by omega)
            have b0 : (y.kind == 0) = false := by rw [hk]; rfl
            have b2 : (y.kind == 2) = false := by rw [hk]; rfl
            have b3 : (y.kind == 3) = false := by rw [hk]; rfl
            have b4 : (y.kind == 4) = false := by rw [hk]; rfl
            have b5 : (y.kind == 5) = true := by rw [hk]; rfl
            have b6 : (y.kind == 6) = false := by rw [hk]; rfl
            have b7 : (y.kind == 7) = false := by rw [hk]; rfl
            have he : stepLine y = lineL [[99, 114, 97, 115, 104], sideL (5 - y.kind), Lib.itoa y.n] := by unfold stepLine; rw [if_neg (by omega), if_neg (by omega), if_pos (.inr hk)]
            rw [he] at hlf
            refine CW_seq (CW_seq (CW_region ?_))
            simp only [zZ, reduceIte, Nat.reduceLT, Int.reduceToNat, Int.reduceLE, Int.reduceEq, Int.reduceLT, Nat.reduceEqDiff, Nat.reduceAdd, zTy, cat_str, cat_lit, lit_cat, hy3, b0, b2, b3, b4, b5, b6, b7]
            refine CW_cond false (by rfl) (fun h => by cases h) (fun _ => CW_skip ?_)
            simp only [zZ, reduceIte, Nat.reduceLT, Int.reduceToNat, Int.reduceLE, Int.reduceEq, Int.reduceLT, Nat.reduceEqDiff, Nat.reduceAdd]
            refine CW_seq (CW_seq (CW_region ?_))
            simp only [zZ, reduceIte, Nat.reduceLT, Int.reduceToNat, Int.reduceLE, Int.reduceEq, Int.reduceLT, Nat.reduceEqDiff, Nat.reduceAdd, zTy, cat_str, cat_lit, lit_cat, hy3, b0, b2, b3, b4, b5, b6, b7]
            refine CW_cond false (by rfl) (fun h => by cases h) (fun _ => CW_skip ?_)
            simp only [zZ, reduceIte, Nat.reduceLT, Int.reduceToNat, Int.reduceLE, Int.reduceEq, Int.reduceLT, Nat.reduceEqDiff, Nat.reduceAdd]
            refine CW_seq (CW_seq (CW_region ?_))
            simp only [zZ, reduceIte, Nat.reduceLT, Int.reduceToNat, Int.reduceLE, Int.reduceEq, Int.reduceLT, Nat.reduceEqDiff, Nat.reduceAdd, zTy, cat_str, cat_lit, lit_cat, hy3, b0, b2, b3, b4, b5, b6, b7]
            refine CW_cond true (by rfl) (fun _ => ?_) (fun h => by cases h)
            refine CW_draw hmix 11 (by kernel_rfl) (by kernel_rfl) ?_
            simp only [zZ, reduceIte, Nat.reduceLT, Int.reduceToNat, Int.reduceLE, Int.reduceEq, Int.reduceLT, Nat.reduceEqDiff, Nat.reduceAdd, zTy, cat_str, cat_lit, lit_cat, hy3, w35]
            refine ⟨(by have := sideL_len (5 - y.kind); simp only [siz_str, siz_lit, List.length_append, List.length_cons, List.length_nil]; omega), by kernel_rfl, _, rname_spec (5 - y.kind) _, ?_⟩
            refine ⟨by decide, ?_⟩
            simp only [zZ, reduceIte, Nat.reduceLT, Int.reduceToNat, Int.reduceLE, Int.reduceEq, Int.reduceLT, Nat.reduceEqDiff, Nat.reduceAdd, zTy, cat_str, cat_lit, lit_cat, hy3, w35, str_data]
            refine ⟨(by have := sideL_len (5 - y.kind); simp only [siz_str, siz_lit, List.length_append, List.length_cons, List.length_nil]; omega), (by have := sideL_len (5 - y.kind); simp only [siz_str, siz_lit, List.length_append, List.length_cons, List.length_nil]; omega), by kernel_rfl, _, rdigits_spec y.n (by omega) hyok.n.2 _, ?_⟩
            refine ⟨by decide, ?_⟩
            simp only [zZ, reduceIte, Nat.reduceLT, Int.reduceToNat, Int.reduceLE, Int.reduceEq, Int.reduceLT, Nat.reduceEqDiff, Nat.reduceAdd, zTy, cat_str, cat_lit, lit_cat, hy3, w35, str_data]
            refine ⟨(by have := sideL_len (5 - y.kind); simp only [siz_str, siz_lit, List.length_append, List.length_cons, List.length_nil]; omega), (by have := sideL_len (5 - y.kind); simp only [siz_str, siz_lit, List.length_append, List.length_cons, List.length_nil]; omega), ?_⟩
            refine CW_seq (CW_seq (CW_region ?_))
            simp only [zZ, reduceIte, Nat.reduceLT, Int.reduceToNat, Int.reduceLE, Int.reduceEq, Int.reduceLT, Nat.reduceEqDiff, Nat.reduceAdd, zTy, cat_str, cat_lit, lit_cat, hy3, b0, b2, b3, b4, b5, b6, b7]
            refine CW_cond false (by rfl) (fun h => by cases h) (fun _ => CW_skip ?_)
            simp only [zZ, reduceIte, Nat.reduceLT, Int.reduceToNat, Int.reduceLE, Int.reduceEq, Int.reduceLT, Nat.reduceEqDiff, Nat.reduceAdd]
            refine CW_seq (CW_seq (CW_region ?_))
            simp only [zZ, reduceIte, Nat.reduceLT, Int.reduceToNat, Int.reduceLE, Int.reduceEq, Int.reduceLT, Nat.reduceEqDiff, Nat.reduceAdd, zTy, cat_str, cat_lit, lit_cat, hy3, b0, b2, b3, b4, b5, b6, b7]
            refine CW_cond false (by rfl) (fun h => by cases h) (fun _ => CW_skip ?_)
            simp only [zZ, reduceIte, Nat.reduceLT, Int.reduceToNat, Int.reduceLE, Int.reduceEq, Int.reduceLT, Nat.reduceEqDiff, Nat.reduceAdd]
            refine CW_seq (CW_region ?_)
            simp only [zZ, reduceIte, Nat.reduceLT, Int.reduceToNat, Int.reduceLE, Int.reduceEq, Int.reduceLT, Nat.reduceEqDiff, Nat.reduceAdd, zTy, cat_str, cat_lit, lit_cat, hy3, b0, b2, b3, b4, b5, b6, b7]
            refine CW_cond false (by rfl) (fun h => by cases h) (fun _ => CW_skip ?_)
            simp only [zZ, reduceIte, Nat.reduceLT, Int.reduceToNat, Int.reduceLE, Int.reduceEq, Int.reduceLT, Nat.reduceEqDiff, Nat.reduceAdd]
            refine ⟨[1, 3, 4, 5], ?_⟩
            simp only [zZ, reduceIte, Nat.reduceLT, Int.reduceToNat, Int.reduceLE, Int.reduceEq, Int.reduceLT, Nat.reduceEqDiff, Nat.reduceAdd, keepF]
            exact ⟨M3, Thin.refl _, _, 0, rfl, hk3, by omega, by rw [hfin, he]; simp [lineL, join_cons2, join_one], by decide, fun h => absurd rfl h⟩
          by_cases hk : y.kind = 6
          · have b0 : (y.kind == 0) = false := by rw [hk]; rfl
            have b2 : (y.kind == 2) = false := by rw [hk]; rfl
            have b3 : (y.kind == 3) = false := by rw [hk]; rfl
            have b4 : (y.kind == 4) = false := by rw [hk]; rfl
            have b5 : (y.kind == 5) = false := by rw [hk]; rfl
            have b6 : (y.kind == 6) = true := by rw [hk]; rfl
            have b7 : (y.kind == 7) = false := by rw [hk]; rfl
            have he : stepLine y = lineL [[105, 110, 106, 101, 99, 116], sideL (bits BinOp.and IntKind.i64 y.n 1), hexV y.text, Lib.itoa y.delay] := by unfold stepLine; rw [if_neg (by omega), if_neg (by omega), if_neg (by omega), if_pos hk]
            rw [he] at hlf
            refine CW_seq (CW_seq (CW_region ?_))
            simp only [zZ, reduceIte, Nat.reduceLT, Int.reduceToNat, Int.reduceLE, Int.reduceEq, Int.reduceLT, Nat.reduceEqDiff, Nat.reduceAdd, zTy, cat_str, cat_lit, lit_cat, hy3, b0, b2, b3, b4, b5, b6, b7]
            refine CW_cond false (by rfl) (fun h => by cases h) (fun _ => CW_skip ?_)
            simp only [zZ, reduceIte, Nat.reduceLT, Int.reduceToNat, Int.reduceLE, Int.reduceEq, Int.reduceLT, Nat.reduceEqDiff, Nat.reduceAdd]
            refine CW_seq (CW_seq (CW_region ?_))
            simp only [zZ, reduceIte, Nat.reduceLT, Int.reduceToNat, Int.reduceLE, Int.reduceEq, Int.reduceLT, Nat.reduceEqDiff, Nat.reduceAdd, zTy, cat_str, cat_lit, lit_cat, hy3, b0, b2, b3, b4, b5, b6, b7]
            refine CW_cond false (by rfl) (fun h => by cases h) (fun _ => CW_skip ?_)
            simp only [zZ, reduceIte, Nat.reduceLT, Int.reduceToNat, Int.reduceLE, Int.reduceEq, Int.reduceLT, Nat.reduceEqDiff, Nat.reduceAdd]
            refine CW_seq (CW_seq (CW_region ?_))
            simp only [zZ, reduceIte, Nat.reduceLT, Int.reduceToNat, Int.reduceLE, Int.reduceEq, Int.reduceLT, Nat.reduceEqDiff, Nat.reduceAdd, zTy, cat_str, cat_lit, lit_cat, hy3, b0, b2, b3, b4, b5, b6, b7]
            refine CW_cond false (by rfl) (fun h => by cases h) (fun _ => CW_skip ?_)
            simp only [zZ, reduceIte, Nat.reduceLT, Int.reduceToNat, Int.reduceLE, Int.reduceEq, Int.reduceLT, Nat.reduceEqDiff, Nat.reduceAdd]
            refine CW_seq (CW_seq (CW_region ?_))
            simp only [zZ, reduceIte, Nat.reduceLT, Int.reduceToNat, Int.reduceLE, Int.reduceEq, Int.reduceLT, Nat.reduceEqDiff, Nat.reduceAdd, zTy, cat_str, cat_lit, lit_cat, hy3, b0, b2, b3, b4, b5, b6, b7]
            refine CW_cond true (by rfl) (fun _ => ?_) (fun h => by cases h)
            refine CW_draw hmix 17 (by kernel_rfl) (by kernel_rfl) ?_
            simp only [zZ, reduceIte, Nat.reduceLT, Int.reduceToNat, Int.reduceLE, Int.reduceEq, Int.reduceLT, Nat.reduceEqDiff, Nat.reduceAdd, zTy, cat_str, cat_lit, lit_cat, hy3]
            refine ⟨(by have := sideL_len (bits BinOp.and IntKind.i64 y.n 1); have := hexV_len y.text; have := hyok.text; simp only [siz_str, siz_lit, List.length_append, List.length_cons, List.length_nil]; omega), by kernel_rfl, _, rname_spec (bits BinOp.and IntKind.i64 y.n 1) _, ?_⟩
            refine ⟨by decide, ?_⟩
            simp only [zZ, reduceIte, Nat.reduceLT, Int.reduceToNat, Int.reduceLE, Int.reduceEq, Int.reduceLT, Nat.reduceEqDiff, Nat.reduceAdd, zTy, cat_str, cat_lit, lit_cat, hy3, str_data]
            refine ⟨(by have := sideL_len (bits BinOp.and IntKind.i64 y.n 1); have := hexV_len y.text; have := hyok.text; simp only [siz_str, siz_lit, List.length_append, List.length_cons, List.length_nil]; omega), (by have := sideL_len (bits BinOp.and IntKind.i64 y.n 1); have := hexV_len y.text; have := hyok.text; simp only [siz_str, siz_lit, List.length_append, List.length_cons, List.length_nil]; omega), by kernel_rfl, _, rhex_spec (str y.text) (by rw [Go.Proofs.YthcleiegefhmdaaDoor.str_size]; exact hyok.text) _, ?_⟩
            refine ⟨by decide, ?_⟩
            simp only [zZ, reduceIte, Nat.reduceLT, Int.reduceToNat, Int.reduceLE, Int.reduceEq, Int.reduceLT, Nat.reduceEqDiff, Nat.reduceAdd, zTy, cat_str, cat_lit, lit_cat, hy3, str_data]
            refine ⟨(by have := sideL_len (bits BinOp.and IntKind.i64 y.n 1); have := hexV_len y.text; have := hyok.text; simp only [siz_str, siz_lit, List.length_append, List.length_cons, List.length_nil]; omega), (by have := sideL_len (bits BinOp.and IntKind.i64 y.n 1); have := hexV_len y.text; have := hyok.text; simp only [siz_str, siz_lit, List.length_append, List.length_cons, List.length_nil]; omega), by kernel_rfl, _, rdigits_spec y.delay (by omega) hyok.delay.2 _, ?_⟩
            refine ⟨by decide, ?_⟩
            simp only [zZ, reduceIte, Nat.reduceLT, Int.reduceToNat, Int.reduceLE, Int.reduceEq, Int.reduceLT, Nat.reduceEqDiff, Nat.reduceAdd, zTy, cat_str, cat_lit, lit_cat, hy3, str_data]
            refine ⟨(by have := sideL_len (bits BinOp.and IntKind.i64 y.n 1); have := hexV_len y.text; have := hyok.text; simp only [siz_str, siz_lit, List.length_append, List.length_cons, List.length_nil]; omega), (by have := sideL_len (bits BinOp.and IntKind.i64 y.n 1); have := hexV_len y.text; have := hyok.text; simp only [siz_str, siz_lit, List.length_append, List.length_cons, List.length_nil]; omega), ?_⟩
            refine CW_seq (CW_seq (CW_region ?_))
            simp only [zZ, reduceIte, Nat.reduceLT, Int.reduceToNat, Int.reduceLE, Int.reduceEq, Int.reduceLT, Nat.reduceEqDiff, Nat.reduceAdd, zTy, cat_str, cat_lit, lit_cat, hy3, b0, b2, b3, b4, b5, b6, b7]
            refine CW_cond false (by rfl) (fun h => by cases h) (fun _ => CW_skip ?_)
            simp only [zZ, reduceIte, Nat.reduceLT, Int.reduceToNat, Int.reduceLE, Int.reduceEq, Int.reduceLT, Nat.reduceEqDiff, Nat.reduceAdd]
            refine CW_seq (CW_region ?_)
            simp only [zZ, reduceIte, Nat.reduceLT, Int.reduceToNat, Int.reduceLE, Int.reduceEq, Int.reduceLT, Nat.reduceEqDiff, Nat.reduceAdd, zTy, cat_str, cat_lit, lit_cat, hy3, b0, b2, b3, b4, b5, b6, b7]
            refine CW_cond false (by rfl) (fun h => by cases h) (fun _ => CW_skip ?_)
            simp only [zZ, reduceIte, Nat.reduceLT, Int.reduceToNat, Int.reduceLE, Int.reduceEq, Int.reduceLT, Nat.reduceEqDiff, Nat.reduceAdd]
            refine ⟨[1, 3, 4, 5], ?_⟩
            simp only [zZ, reduceIte, Nat.reduceLT, Int.reduceToNat, Int.reduceLE, Int.reduceEq, Int.reduceLT, Nat.reduceEqDiff, Nat.reduceAdd, keepF]
            exact ⟨M3, Thin.refl _, _, 0, rfl, hk3, by omega, by rw [hfin, he]; simp [lineL, join_cons2, join_one], by decide, fun h => absurd rfl h⟩
          by_cases hk : y.kind = 7
          · by_cases h : y.drop = true
            · have hd : y.drop = true := h
              have b0 : (y.kind == 0) = false := by rw [hk]; rfl
              have b2 : (y.kind == 2) = false := by rw [hk]; rfl
              have b3 : (y.kind == 3) = false := by rw [hk]; rfl
              have b4 : (y.kind == 4) = false := by rw [hk]; rfl
              have b5 : (y.kind == 5) = false := by rw [hk]; rfl
              have b6 : (y.kind == 6) = false := by rw [hk]; rfl
              have b7 : (y.kind == 7) = true := by rw [hk]; rfl
              have he : stepLine y = lineL [[102, 97, 116, 101], [100, 114, 111, 112]] := by unfold stepLine; rw [if_neg (by omega), if_neg (by omega), if_neg (by omega), if_neg (by omega), if_pos hk, if_pos hd]
              rw [he] at hlf
              refine CW_seq (CW_seq (CW_region ?_))
              simp only [zZ, reduceIte, Nat.reduceLT, Int.reduceToNat, Int.reduceLE, Int.reduceEq, Int.reduceLT, Nat.reduceEqDiff, Nat.reduceAdd, zTy, cat_str, cat_lit, lit_cat, hy3, b0, b2, b3, b4, b5, b6, b7, hd, Bool.not_true]
              refine CW_cond false (by rfl) (fun h => by cases h) (fun _ => CW_skip ?_)
              simp only [zZ, reduceIte, Nat.reduceLT, Int.reduceToNat, Int.reduceLE, Int.reduceEq, Int.reduceLT, Nat.reduceEqDiff, Nat.reduceAdd]
              refine CW_seq (CW_seq (CW_region ?_))
              simp only [zZ, reduceIte, Nat.reduceLT, Int.reduceToNat, Int.reduceLE, Int.reduceEq, Int.reduceLT, Nat.reduceEqDiff, Nat.reduceAdd, zTy, cat_str, cat_lit, lit_cat, hy3, b0, b2, b3, b4, b5, b6, b7, hd, Bool.not_true]
              refine CW_cond false (by rfl) (fun h => by cases h) (fun _ => CW_skip ?_)
              simp only [zZ, reduceIte, Nat.reduceLT, Int.reduceToNat, Int.reduceLE, Int.reduceEq, Int.reduceLT, Nat.reduceEqDiff, Nat.reduceAdd]
              refine CW_seq (CW_seq (CW_region ?_))
              simp only [zZ, reduceIte, Nat.reduceLT, Int.reduceToNat, Int.reduceLE, Int.reduceEq, Int.reduceLT, Nat.reduceEqDiff, Nat.reduceAdd, zTy, cat_str, cat_lit, lit_cat, hy3, b0, b2, b3, b4, b5, b6, b7, hd, Bool.not_true]
              refine CW_cond false (by rfl) (fun h => by cases h) (fun _ => CW_skip ?_)
              simp only [zZ, reduceIte, Nat.reduceLT, Int.reduceToNat, Int.reduceLE, Int.reduceEq, Int.reduceLT, Nat.reduceEqDiff, Nat.reduceAdd]
              refine CW_seq (CW_seq (CW_region ?_))
              simp only [zZ, reduceIte, Nat.reduceLT, Int.reduceToNat, Int.reduceLE, Int.reduceEq, Int.reduceLT, Nat.reduceEqDiff, Nat.reduceAdd, zTy, cat_str, cat_lit, lit_cat, hy3, b0, b2, b3, b4, b5, b6, b7, hd, Bool.not_true]
              refine CW_cond false (by rfl) (fun h => by cases h) (fun _ => CW_skip ?_)
              simp only [zZ, reduceIte, Nat.reduceLT, Int.reduceToNat, Int.reduceLE, Int.reduceEq, Int.reduceLT, Nat.reduceEqDiff, Nat.reduceAdd]
              refine CW_seq (CW_seq (CW_region ?_))
              simp only [zZ, reduceIte, Nat.reduceLT, Int.reduceToNat, Int.reduceLE, Int.reduceEq, Int.reduceLT, Nat.reduceEqDiff, Nat.reduceAdd, zTy, cat_str, cat_lit, lit_cat, hy3, b0, b2, b3, b4, b5, b6, b7, hd, Bool.not_true]
              refine CW_cond true (by rfl) (fun _ => ?_) (fun h => by cases h)
              refine CW_region ?_
              simp only [zZ, reduceIte, Nat.reduceLT, Int.reduceToNat, Int.reduceLE, Int.reduceEq, Int.reduceLT, Nat.reduceEqDiff, Nat.reduceAdd, zTy, cat_str, cat_lit, lit_cat]
              refine ⟨(by simp only [siz_str, siz_lit, List.length_append, List.length_cons, List.length_nil]; omega), ?_⟩
              refine CW_seq (CW_region ?_)
              simp only [zZ, reduceIte, Nat.reduceLT, Int.reduceToNat, Int.reduceLE, Int.reduceEq, Int.reduceLT, Nat.reduceEqDiff, Nat.reduceAdd, zTy, cat_str, cat_lit, lit_cat, hy3, b0, b2, b3, b4, b5, b6, b7, hd, Bool.not_true]
              refine CW_cond false (by rfl) (fun h => by cases h) (fun _ => CW_skip ?_)
              simp only [zZ, reduceIte, Nat.reduceLT, Int.reduceToNat, Int.reduceLE, Int.reduceEq, Int.reduceLT, Nat.reduceEqDiff, Nat.reduceAdd]
              refine ⟨[1, 3, 4, 5], ?_⟩
              simp only [zZ, reduceIte, Nat.reduceLT, Int.reduceToNat, Int.reduceLE, Int.reduceEq, Int.reduceLT, Nat.reduceEqDiff, Nat.reduceAdd, keepF]
              exact ⟨M3, Thin.refl _, _, 0, rfl, hk3, by omega, by rw [hfin, he]; simp [lineL, join_cons2, join_one], by decide, fun h => absurd rfl h⟩
            · have hd : y.drop = false := by simpa using h
              have b0 : (y.kind == 0) = false := by rw [hk]; rfl
              have b2 : (y.kind == 2) = false := by rw [hk]; rfl
              have b3 : (y.kind == 3) = false := by rw [hk]; rfl
              have b4 : (y.kind == 4) = false := by rw [hk]; rfl
              have b5 : (y.kind == 5) = false := by rw [hk]; rfl
              have b6 : (y.kind == 6) = false := by rw [hk]; rfl
              have b7 : (y.kind == 7) = true := by rw [hk]; rfl
              have he : stepLine y = lineL [[102, 97, 116, 101], Lib.itoa y.delay, Lib.itoa y.copies] := by unfold stepLine; rw [if_neg (by omega), if_neg (by omega), if_neg (by omega), if_neg (by omega), if_pos hk, if_neg (by rw [hd]; decide)]
              rw [he] at hlf
              refine CW_seq (CW_seq (CW_region ?_))
              simp only [zZ, reduceIte, Nat.reduceLT, Int.reduceToNat, Int.reduceLE, Int.reduceEq, Int.reduceLT, Nat.reduceEqDiff, Nat.reduceAdd, zTy, cat_str, cat_lit, lit_cat, hy3, b0, b2, b3, b4, b5, b6, b7, hd, Bool.not_false]
              refine CW_cond false (by rfl) (fun h => by cases h) (fun _ => CW_skip ?_)
              simp only [zZ, reduceIte, Nat.reduceLT, Int.reduceToNat, Int.reduceLE, Int.reduceEq, Int.reduceLT, Nat.reduceEqDiff, Nat.reduceAdd]
              refine CW_seq (CW_seq (CW_region ?_))
              simp only [zZ, reduceIte, Nat.reduceLT, Int.reduceToNat, Int.reduceLE, Int.reduceEq, Int.reduceLT, Nat.reduceEqDiff, Nat.reduceAdd, zTy, cat_str, cat_lit, lit_cat, hy3, b0, b2, b3, b4, b5, b6, b7, hd, Bool.not_false]
              refine CW_cond false (by rfl) (fun h => by cases h) (fun _ => CW_skip ?_)
              simp only [zZ, reduceIte, Nat.reduceLT, Int.reduceToNat, Int.reduceLE, Int.reduceEq, Int.reduceLT, Nat.reduceEqDiff, Nat.reduceAdd]
              refine CW_seq (CW_seq (CW_region ?_))
              simp only [zZ, reduceIte, Nat.reduceLT, Int.reduceToNat, Int.reduceLE, Int.reduceEq, Int.reduceLT, Nat.reduceEqDiff, Nat.reduceAdd, zTy, cat_str, cat_lit, lit_cat, hy3, b0, b2, b3, b4, b5, b6, b7, hd, Bool.not_false]
              refine CW_cond false (by rfl) (fun h => by cases h) (fun _ => CW_skip ?_)
              simp only [zZ, reduceIte, Nat.reduceLT, Int.reduceToNat, Int.reduceLE, Int.reduceEq, Int.reduceLT, Nat.reduceEqDiff, Nat.reduceAdd]
              refine CW_seq (CW_seq (CW_region ?_))
              simp only [zZ, reduceIte, Nat.reduceLT, Int.reduceToNat, Int.reduceLE, Int.reduceEq, Int.reduceLT, Nat.reduceEqDiff, Nat.reduceAdd, zTy, cat_str, cat_lit, lit_cat, hy3, b0, b2, b3, b4, b5, b6, b7, hd, Bool.not_false]
              refine CW_cond false (by rfl) (fun h => by cases h) (fun _ => CW_skip ?_)
              simp only [zZ, reduceIte, Nat.reduceLT, Int.reduceToNat, Int.reduceLE, Int.reduceEq, Int.reduceLT, Nat.reduceEqDiff, Nat.reduceAdd]
              refine CW_seq (CW_seq (CW_region ?_))
              simp only [zZ, reduceIte, Nat.reduceLT, Int.reduceToNat, Int.reduceLE, Int.reduceEq, Int.reduceLT, Nat.reduceEqDiff, Nat.reduceAdd, zTy, cat_str, cat_lit, lit_cat, hy3, b0, b2, b3, b4, b5, b6, b7, hd, Bool.not_false]
              refine CW_cond false (by rfl) (fun h => by cases h) (fun _ => CW_skip ?_)
              simp only [zZ, reduceIte, Nat.reduceLT, Int.reduceToNat, Int.reduceLE, Int.reduceEq, Int.reduceLT, Nat.reduceEqDiff, Nat.reduceAdd]
              refine CW_seq (CW_region ?_)
              simp only [zZ, reduceIte, Nat.reduceLT, Int.reduceToNat, Int.reduceLE, Int.reduceEq, Int.reduceLT, Nat.reduceEqDiff, Nat.reduceAdd, zTy, cat_str, cat_lit, lit_cat, hy3, b0, b2, b3, b4, b5, b6, b7, hd, Bool.not_false]
              refine CW_cond true (by rfl) (fun _ => ?_) (fun h => by cases h)
              refine CW_draw hmix 12 (by kernel_rfl) (by kernel_rfl) ?_
              simp only [zZ, reduceIte, Nat.reduceLT, Int.reduceToNat, Int.reduceLE, Int.reduceEq, Int.reduceLT, Nat.reduceEqDiff, Nat.reduceAdd, zTy, cat_str, cat_lit, lit_cat, hy3]
              refine ⟨(by simp only [siz_str, siz_lit, List.length_append, List.length_cons, List.length_nil]; omega), by kernel_rfl, _, rdigits_spec y.delay (by omega) hyok.delay.2 _, ?_⟩
              refine ⟨by decide, ?_⟩
              simp only [zZ, reduceIte, Nat.reduceLT, Int.reduceToNat, Int.reduceLE, Int.reduceEq, Int.reduceLT, Nat.reduceEqDiff, Nat.reduceAdd, zTy, cat_str, cat_lit, lit_cat, hy3, str_data]
              refine ⟨(by simp only [siz_str, siz_lit, List.length_append, List.length_cons, List.length_nil]; omega), (by simp only [siz_str, siz_lit, List.length_append, List.length_cons, List.length_nil]; omega), by kernel_rfl, _, rdigits_spec y.copies (by omega) hyok.copies.2 _, ?_⟩
              refine ⟨by decide, ?_⟩
              simp only [zZ, reduceIte, Nat.reduceLT, Int.reduceToNat, Int.reduceLE, Int.reduceEq, Int.reduceLT, Nat.reduceEqDiff, Nat.reduceAdd, zTy, cat_str, cat_lit, lit_cat, hy3, str_data]
              refine ⟨(by simp only [siz_str, siz_lit, List.length_append, List.length_cons, List.length_nil]; omega), (by simp only [siz_str, siz_lit, List.length_append, List.length_cons, List.length_nil]; omega), ?_⟩
              refine ⟨[1, 3, 4, 5], ?_⟩
              simp only [zZ, reduceIte, Nat.reduceLT, Int.reduceToNat, Int.reduceLE, Int.reduceEq, Int.reduceLT, Nat.reduceEqDiff, Nat.reduceAdd, keepF]
              exact ⟨M3, Thin.refl _, _, 0, rfl, hk3, by omega, by rw [hfin, he]; simp [lineL, join_cons2, join_one], by decide, fun h => absurd rfl h⟩
          have b0 : (y.kind == 0) = false := by rw [beq_eq_false_iff_ne]; omega
          have b2 : (y.kind == 2) = false := by rw [beq_eq_false_iff_ne]; omega
          have b3 : (y.kind == 3) = false := by rw [beq_eq_false_iff_ne]; omega
          have b4 : (y.kind == 4) = false := by rw [beq_eq_false_iff_ne]; omega
          have b5 : (y.kind == 5) = false := by rw [beq_eq_false_iff_ne]; omega
          have b6 : (y.kind == 6) = false := by rw [beq_eq_false_iff_ne]; omega
          have b7 : (y.kind == 7) = false := by rw [beq_eq_false_iff_ne]; omega
          have he : stepLine y = [] := by unfold stepLine; rw [if_neg (by omega), if_neg (by omega), if_neg (by omega), if_neg (by omega), if_neg (by omega)]
          refine CW_seq (CW_seq (CW_region ?_))
          simp only [zZ, reduceIte, Nat.reduceLT, Int.reduceToNat, Int.reduceLE, Int.reduceEq, Int.reduceLT, Nat.reduceEqDiff, Nat.reduceAdd, zTy, cat_str, cat_lit, lit_cat, hy3, b0, b2, b3, b4, b5, b6, b7]
          refine CW_cond false (by rfl) (fun h => by cases h) (fun _ => CW_skip ?_)
          simp only [zZ, reduceIte, Nat.reduceLT, Int.reduceToNat, Int.reduceLE, Int.reduceEq, Int.reduceLT, Nat.reduceEqDiff, Nat.reduceAdd]
          refine CW_seq (CW_seq (CW_region ?_))
          simp only [zZ, reduceIte, Nat.reduceLT, Int.reduceToNat, Int.reduceLE, Int.reduceEq, Int.reduceLT, Nat.reduceEqDiff, Nat.reduceAdd, zTy, cat_str, cat_lit, lit_cat, hy3, b0, b2, b3, b4, b5, b6, b7]
          refine CW_cond false (by rfl) (fun h => by cases h) (fun _ => CW_skip ?_)
          simp only [zZ, reduceIte, Nat.reduceLT, Int.reduceToNat, Int.reduceLE, Int.reduceEq, Int.reduceLT, Nat.reduceEqDiff, Nat.reduceAdd]
          refine CW_seq (CW_seq (CW_region ?_))
          simp only [zZ, reduceIte, Nat.reduceLT, Int.reduceToNat, Int.reduceLE, Int.reduceEq, Int.reduceLT, Nat.reduceEqDiff, Nat.reduceAdd, zTy, cat_str, cat_lit, lit_cat, hy3, b0, b2, b3, b4, b5, b6, b7]
          refine CW_cond false (by rfl) (fun h => by cases h) (fun _ => CW_skip ?_)
          simp only [zZ, reduceIte, Nat.reduceLT, Int.reduceToNat, Int.reduceLE, Int.reduceEq, Int.reduceLT, Nat.reduceEqDiff, Nat.reduceAdd]
          refine CW_seq (CW_seq (CW_region ?_))
          simp only [zZ, reduceIte, Nat.reduceLT, Int.reduceToNat, Int.reduceLE, Int.reduceEq, Int.reduceLT, Nat.reduceEqDiff, Nat.reduceAdd, zTy, cat_str, cat_lit, lit_cat, hy3, b0, b2, b3, b4, b5, b6, b7]
          refine CW_cond false (by rfl) (fun h => by cases h) (fun _ => CW_skip ?_)
          simp only [zZ, reduceIte, Nat.reduceLT, Int.reduceToNat, Int.reduceLE, Int.reduceEq, Int.reduceLT, Nat.reduceEqDiff, Nat.reduceAdd]
          refine CW_seq (CW_seq (CW_region ?_))
          simp only [zZ, reduceIte, Nat.reduceLT, Int.reduceToNat, Int.reduceLE, Int.reduceEq, Int.reduceLT, Nat.reduceEqDiff, Nat.reduceAdd, zTy, cat_str, cat_lit, lit_cat, hy3, b0, b2, b3, b4, b5, b6, b7]
          refine CW_cond false (by rfl) (fun h => by cases h) (fun _ => CW_skip ?_)
          simp only [zZ, reduceIte, Nat.reduceLT, Int.reduceToNat, Int.reduceLE, Int.reduceEq, Int.reduceLT, Nat.reduceEqDiff, Nat.reduceAdd]
          refine CW_seq (CW_region ?_)
          simp only [zZ, reduceIte, Nat.reduceLT, Int.reduceToNat, Int.reduceLE, Int.reduceEq, Int.reduceLT, Nat.reduceEqDiff, Nat.reduceAdd, zTy, cat_str, cat_lit, lit_cat, hy3, b0, b2, b3, b4, b5, b6, b7]
          refine CW_cond false (by rfl) (fun h => by cases h) (fun _ => CW_skip ?_)
          simp only [zZ, reduceIte, Nat.reduceLT, Int.reduceToNat, Int.reduceLE, Int.reduceEq, Int.reduceLT, Nat.reduceEqDiff, Nat.reduceAdd]
          refine ⟨[1, 3, 4, 5], ?_⟩
          simp only [zZ, reduceIte, Nat.reduceLT, Int.reduceToNat, Int.reduceLE, Int.reduceEq, Int.reduceLT, Nat.reduceEqDiff, Nat.reduceAdd, keepF]
          exact ⟨M3, Thin.refl _, _, 0, rfl, hk3, by omega, by rw [hfin, he, List.nil_append], by decide, fun h => absurd rfl h⟩
    · simp only [zZ, reduceIte, Nat.reduceLT, Int.reduceToNat, Int.reduceLE, Int.reduceEq, Int.reduceLT, Nat.reduceEqDiff, Nat.reduceAdd]
      have hil : i = L.length := by have := of_decide_eq_false h; omega
      subst hil
      refine CW_seq (CW_region ?_)
      simp only [zZ, reduceIte, Nat.reduceLT, Int.reduceToNat, Int.reduceLE, Int.reduceEq, Int.reduceLT, Nat.reduceEqDiff, Nat.reduceAdd, zTy, cat_str, cat_lit, lit_cat]
      refine CW_ret ?_
      simp only [zZ, reduceIte, Nat.reduceLT, Int.reduceToNat, Int.reduceLE, Int.reduceEq, Int.reduceLT, Nat.reduceEqDiff, Nat.reduceAdd, zTy, cat_str, cat_lit, lit_cat, mEnd, sAnswer, sAnswer.sRes]
      have hTe2 : T = t := by rw [hTt, List.drop_length]; cases n <;> simp [printB]
      rw [hTe2]
      exact ⟨M, Thin.refl _, rfl, fun b y _ hy => hk.1 b y (by have := get_live hy; omega) (hold0 b y hy), fun b s cs hy => hk.2 b s cs (hold0 _ _ hy)⟩
end Go.Proofs.YthcleiegefhmdaaDoor
namespace Go.Proofs.YthcleiegefhmdaaDoor
open Go.RowKit Abs
theorem build_cfg (s : ByteArray) (a b c d : Int) : aBuild Tryd.prog 45 [(0, .string s), (1, .int .i64 a), (2, .int .i64 b), (3, .agg #[.int .i64 c, .int .i64 d])] = some (.agg #[.string s, .int .i64 a, .int .i64 b, .int .i64 c, .int .i64 d]) := by kernel_rfl
theorem al_Cfg : nAlloc Tryd.prog 45 = some (.cells false (aStride Tryd.prog 45) [.string ⟨#[]⟩, .int .i64 0, .int .i64 0, .int .i64 0, .int .i64 0]) := by kernel_rfl
theorem inf_Cfg : Tryd.prog.info? 45 = some Tryd.t45 := by kernel_rfl
theorem st_Cfg (m : Mem) (b o : Nat) (v : Value) : aStore Tryd.prog m 45 (.pointer (some ⟨b, o, none⟩)) v = putIn 5 m b o v.cells.toList (m.get b) := st_any inf_Cfg rfl m b o v
theorem ld_Cfg (get : Nat → Option Blk) (b o : Nat) : gLoad Tryd.prog get 45 (.pointer (some ⟨b, o, none⟩)) = rowIn 5 o (get b) := ld_row Tryd.underlying45 (row_struct _) inf_Cfg rfl get b o
set_option maxRecDepth 100000 in
set_option maxHeartbeats 2000000 in
theorem config_spec (x : PS) (a : Option Addr) (l c : Nat) (s : ByteArray) (m : Mem) : Abs.Spec Tryd.prog 13 [scrAgg x (.slice a l c), .string s] m fun u M => u = .agg #[.string s, .int .i64 x.1, .int .i64 x.2.1, .int .i64 x.2.2.1, .int .i64 x.2.2.2.1] ∧ Keeps m.size m M := by
  refine Abs.Spec.walkM Tryd.func13 (by rfl) _ Tryd.results13 _ Tryd.ntmps13 (by simp) ?_
  intro hc hx k
  have bA : nBox Tryd.prog 29 (scrAgg x (.slice a l c)) = some (.cells false (aStride Tryd.prog 29) [.int .i64 x.1, .int .i64 x.2.1, .int .i64 x.2.2.1, .int .i64 x.2.2.2.1, .slice a l c]) := bx_Scr _ rfl
  generalize aStride Tryd.prog 29 = s1 at bA
  have hal := al_Cfg
  generalize aStride Tryd.prog 45 = s2 at hal
  refine CW_seq (CW_region ?_)
  simp only [zZ, reduceIte, Nat.reduceLT, Int.reduceToNat, Int.reduceLE, Int.reduceEq, Int.reduceLT, Nat.reduceEqDiff, Nat.reduceAdd, zTy, bA, hal]
  obtain ⟨M1, hM1⟩ : ∃ M1, M1 = (m.push (.cells false s1 [.int .i64 x.1, .int .i64 x.2.1, .int .i64 x.2.2.1, .int .i64 x.2.2.2.1, .slice a l c])).push (.cells false s2 [.string ⟨#[]⟩, .int .i64 0, .int .i64 0, .int .i64 0, .int .i64 0]) := ⟨_, rfl⟩
  rw [← hM1]
  have hk : Keeps m.size m M1 := by rw [hM1]; exact (Keeps.push _ _ _).trans (Keeps.push _ _ _)
  have g1 : M1.get m.size = some (.cells false s1 [.int .i64 x.1, .int .i64 x.2.1, .int .i64 x.2.2.1, .int .i64 x.2.2.2.1, .slice a l c]) := by
    rw [hM1, Mem.get_push_old (by rw [Mem.size_push]; omega), Mem.get_push_new]
  have g2 : M1.get (m.size + 1) = some (.cells false s2 [.string ⟨#[]⟩, .int .i64 0, .int .i64 0, .int .i64 0, .int .i64 0]) := by
    have := Mem.get_push_new (m.push (.cells false s1 [.int .i64 x.1, .int .i64 x.2.1, .int .i64 x.2.2.1, .int .i64 x.2.2.2.1, .slice a l c])) (.cells false s2 [.string ⟨#[]⟩, .int .i64 0, .int .i64 0, .int .i64 0, .int .i64 0])
    rw [Mem.size_push] at this
    rw [hM1]; exact this
  have rf : ∀ (s : Nat) (p q r v : Int) (w : Value), rowIn 2 2 (some (.cells false s [.int .i64 p, .int .i64 q, .int .i64 r, .int .i64 v, w])) = some (.agg #[.int .i64 r, .int .i64 v]) := fun _ _ _ _ _ _ => rfl
  simp only [Mem.size_push]
  refine CW_seq (CW_region ?_)
  simp only [zZ, reduceIte, Nat.reduceLT, Int.reduceToNat, Int.reduceLE, Int.reduceEq, Int.reduceLT, Nat.reduceEqDiff, Nat.reduceAdd, zTy, g1, rf, build_cfg, st_Cfg, g2]
  obtain ⟨M2, hM2⟩ : ∃ M2, M2 = M1.set (m.size + 1) (some (.cells false s2 [.string s, .int .i64 x.1, .int .i64 x.2.1, .int .i64 x.2.2.1, .int .i64 x.2.2.2.1])) := ⟨_, rfl⟩
  have hk2 : Keeps m.size m M2 := by rw [hM2]; exact hk.trans (Keeps.set (by omega) g2 _)
  have g3 : M2.get (m.size + 1) = some (.cells false s2 [.string s, .int .i64 x.1, .int .i64 x.2.1, .int .i64 x.2.2.1, .int .i64 x.2.2.2.1]) := by rw [hM2, Mem.get_set_same g2]
  have rc : ∀ cs : List Value, cs.length = 5 → rowIn 5 0 (some (.cells false s2 cs)) = some (.agg cs.toArray) := fun cs h => rowIn_whole h
  refine CW_ret ?_
  simp only [putIn_whole (n := 5) M1 (m.size + 1) (s := s2) (vs := [.string s, .int .i64 x.1, .int .i64 x.2.1, .int .i64 x.2.2.1, .int .i64 x.2.2.2.1]) (cs := [.string ⟨#[]⟩, .int .i64 0, .int .i64 0, .int .i64 0, .int .i64 0]) rfl rfl rfl, ← hM2]
  simp only [zZ, reduceIte, Nat.reduceLT, Int.reduceToNat, Int.reduceLE, Int.reduceEq, Int.reduceLT, Nat.reduceEqDiff, Nat.reduceAdd, zTy, mEnd, sAnswer, sAnswer.sRes, aLoad_g, ld_Cfg, g3]
  exact ⟨M2, Thin.refl _, hk2⟩
def Cut (m m' : Mem) : Prop := ∃ b ro s cs k, m.get b = some (.cells ro s cs) ∧ s ≠ 0 ∧ s ≠ bufS ∧ m' = m.set b (some (.cells ro s (cs.take k)))
theorem Cut.rel {ι : Nat → Abs.Loc} {m m' : Mem} {w : World} (h : Rel ι m w) (hc : Cut m m') : Rel ι m' w := by
  obtain ⟨b, ro, s, cs, k, hb, hs, hs2, rfl⟩ := hc
  have own : ∀ c, (m.set b (some (.cells ro s (cs.take k)))).Own c → m.Own c := fun c ⟨s', cs', hc⟩ => by
    by_cases e : b = c
    · subst e; rw [Mem.get_set_same hb] at hc; cases hc; exact ⟨_, _, hb⟩
    · rw [Mem.get_set_ne e] at hc; exact ⟨_, _, hc⟩
  have live : ∀ c, (m.set b (some (.cells ro s (cs.take k)))).get c ≠ none → m.get c ≠ none := fun c hc => by
    by_cases e : b = c
    · subst e; rw [hb]; simp
    · rw [Mem.get_set_ne e] at hc; exact hc
  refine ⟨fun c ro' s' cs' hc => ?_, fun c c' hc hc' hne => h.inj c c' (live c hc) (own c' hc') hne, ⟨h.glob.known, fun c hc => h.glob.own c (own c hc)⟩⟩
  have up : ∀ {v v' : Value}, VRel m.Has ι v v' → VRel (m.set b (some (.cells ro s (cs.take k)))).Has ι v v' := fun hv => hv.mono (fun _ hc => Mem.has_set _ hc) fun _ _ => rfl
  by_cases e : b = c
  · subst e
    rw [Mem.get_set_same hb] at hc
    cases hc
    obtain ⟨C, e, fz, g1, g2, g3, g4, g5, g6⟩ := h.at' b ro s cs hb
    refine ⟨C, e, fz, g1, g2, ⟨g3.eq, fun h0 => absurd h0 hs, fun h0 => absurd h0 hs2⟩, by rw [List.length_take]; omega, fun i v hi => ?_, g6⟩
    · rw [List.getElem?_take] at hi
      split at hi
      · obtain ⟨g7, v', g8, g9⟩ := g5 i v hi
        exact ⟨g7, v', g8, up g9⟩
      · cases hi
  · rw [Mem.get_set_ne e] at hc
    obtain ⟨C, e', fz, g1, g2, g3, g4, g5, g6⟩ := h.at' c ro' s' cs' hc
    exact ⟨C, e', fz, g1, g2, g3, g4, fun i v hi => by
      obtain ⟨g7, v', g8, g9⟩ := g5 i v hi
      exact ⟨g7, v', g8, up g9⟩, g6⟩
theorem Cut.has {m m' : Mem} (hc : Cut m m') : ∀ b, m.Has b → m'.Has b := by
  obtain ⟨b, ro, s, cs, k, hb, hs, hs2, rfl⟩ := hc
  exact fun _ hc => Mem.has_set _ hc
theorem Cut.own {m m' : Mem} (hc : Cut m m') : ∀ b, m'.Own b → m.Own b := by
  obtain ⟨b, ro, s, cs, k, hb, hs, hs2, rfl⟩ := hc
  rintro c ⟨s', cs', hc⟩
  by_cases e : b = c
  · subst e; rw [Mem.get_set_same hb] at hc; cases hc; exact ⟨_, _, hb⟩
  · rw [Mem.get_set_ne e] at hc; exact ⟨_, _, hc⟩
theorem CW_cut {P : Program} {n k : Nat} {f : AL} {m m' : Mem} {c : Code} {Q : Exit → AL → Mem → Prop} (ht : Cut m m') (h : @CW P n k ⟨c⟩ ⟨Q⟩ f m') : @CW P n k ⟨c⟩ ⟨Q⟩ f m :=
  fun a ha ι₀ m₀ w₀ ι act w h0 hs hA hr => h a ha ι₀ m₀ w₀ ι act w h0 ⟨hs.os, hs.tape, hs.output, hs.size, fun b hb => ht.has b (hs.grows b hb), hs.at_, hs.block, fun b hb => hs.own b (ht.own b hb)⟩ (hA.mono ht.has fun _ _ => rfl) (ht.rel hr)
end Go.Proofs.YthcleiegefhmdaaDoor
namespace Go.Proofs.YthcleiegefhmdaaDoor
open Go.RowKit Abs
def StepSmall (y : StepL) : Prop := ¬ 5000 < y.text.length ∧ ¬ 20 < y.files.length ∧ ¬ y.n < -1099511627776 ∧ ¬ y.delay < -1099511627776 ∧ ¬ y.copies < -1099511627776
def FilesSmall (y : StepL) : Prop := ∀ f ∈ y.files, f.1.length + f.2.length ≤ 5000
structure StepIn (y : StepL) : Prop where
  kind : isI64 y.kind
  n : isI64 y.n
  delay : isI64 y.delay
  copies : isI64 y.copies
  file : ∀ f ∈ y.files, f.1.length ≤ 140737488351232 ∧ f.2.length ≤ 140737488351232
theorem line_len {y : StepL} (h : StepSmall y) (hf : FilesSmall y) (h1 : isI64 y.n) (h2 : isI64 y.delay) (h3 : isI64 y.copies) : (stepLine y).length ≤ 1000000 := by
  obtain ⟨g1, g2, g3, g4, g5⟩ := h
  have l1 := itoa_len y.n h1
  have l2 := itoa_len y.delay h2
  have l3 := itoa_len y.copies h3
  have hs : ∀ n, (sideL n).length ≤ 8 := sideL_len
  have hx := hexV_len y.text
  unfold stepLine
  split
  · have hpk : (lineL ([112, 97, 99, 107] :: y.files.map fileW)).length = 5 + (y.files.map fun f => (fileW f).length + 1).sum := by
      unfold lineL
      rw [Lib.join_cons, Lib.joinTail]
      simp [List.length_flatten, Function.comp_def]
      omega
    rw [hpk]
    have hb : ∀ l : List FileL, (∀ f ∈ l, f.1.length + f.2.length ≤ 5000) → (l.map fun f => (fileW f).length + 1).sum ≤ l.length * 20004 := fun l => by
      induction l with
      | nil => intro _; simp
      | cons f r ih =>
        intro hl
        have h0 := hl f (by simp)
        have h4 := ih fun g hg => hl g (by simp [hg])
        have h5 := hexV_len f.1
        have h6 := hexV_len f.2
        have h8 : (fileW f).length = (hexV f.1).length + 1 + (hexV f.2).length := by simp [fileW]; omega
        rw [List.map_cons, List.sum_cons, List.length_cons, h8]
        omega
    have := hb y.files hf
    have h7 : y.files.length * 20004 ≤ 20 * 20004 := Nat.mul_le_mul_right _ (by omega)
    omega
  · split
    · have := hs (3 - y.kind); simp [lineL, join_cons2, join_one]; omega
    · split
      · have := hs (5 - y.kind); simp [lineL, join_cons2, join_one]; omega
      · split
        · have := hs (bits BinOp.and IntKind.i64 y.n 1); simp [lineL, join_cons2, join_one]; omega
        · split
          · split
            · decide
            · simp [lineL, join_cons2, join_one]; omega
          · simp
theorem nt_len : ∀ (L : List StepL), (∀ y ∈ L, (stepLine y).length ≤ 1000000) → nt L ≤ L.length * 1000000
  | [], _ => by simp [nt]
  | y :: r, h => by
    have h1 := nt_len r fun z hz => h z (by simp [hz])
    have h2 := h y (by simp)
    rw [nt, List.length_cons]
    split <;> omega
theorem eq_cfg (cx : Bool) (s : ByteArray) (a b c d : Int) : aBin Tryd.prog .eql 45 cx (.agg #[.string s, .int .i64 a, .int .i64 b, .int .i64 c, .int .i64 d]) (.agg #[.string s, .int .i64 a, .int .i64 b, .int .i64 c, .int .i64 d]) = some (.bool true) := by
  have e0 : ∀ (s1 s2 : ByteArray) (a1 a2 b1 b2 c1 c2 d1 d2 : Int), aBin Tryd.prog .eql 45 cx (.agg #[.string s1, .int .i64 a1, .int .i64 b1, .int .i64 c1, .int .i64 d1]) (.agg #[.string s2, .int .i64 a2, .int .i64 b2, .int .i64 c2, .int .i64 d2]) = (match some (beqB s1 s2) with
      | some true => (match some (a1 == a2) with
        | some true => (match some (b1 == b2) with
          | some true => (match (match some (c1 == c2) with
              | some true => (match some (d1 == d2) with
                | some true => some true
                | some false => some false
                | none => none)
              | some false => some false
              | none => none) with
            | some true => some true
            | some false => some false
            | none => none)
          | some false => some false
          | none => none)
        | some false => some false
        | none => none)
      | some false => some false
      | none => none).map Value.bool := fun _ _ _ _ _ _ _ _ _ _ => by kernel_rfl
  rw [e0]
  have hb : beqB s s = true := by rw [beqB_dec]; exact decide_eq_true rfl
  simp [hb]
theorem build_scr5 (a b c d : Int) (q : Option Addr) (l k : Nat) : aBuild Tryd.prog 29 [(0, .int .i64 a), (1, .int .i64 b), (2, .agg #[.int .i64 c, .int .i64 d]), (3, .slice q l k)] = some (.agg #[.int .i64 a, .int .i64 b, .int .i64 c, .int .i64 d, .slice q l k]) := by kernel_rfl
theorem build_rscr5 (a b c d : Int) (q : Option Addr) (l k : Nat) : aBuild Tryd.prog 49 [(0, .int .i64 a), (1, .int .i64 b), (2, .int .i64 c), (3, .int .i64 d), (4, .slice q l k)] = some (.agg #[.int .i64 a, .int .i64 b, .int .i64 c, .int .i64 d, .slice q l k]) := by kernel_rfl
theorem build_fair2 (c d : Int) : aBuild Tryd.prog 26 [(0, .int .i64 c), (1, .int .i64 d)] = some (.agg #[.int .i64 c, .int .i64 d]) := by kernel_rfl
theorem list_str (s : ByteArray) : s = str s.data.toList := ByteArray.ext (Array.ext' rfl)
set_option maxRecDepth 100000 in
theorem rep_step {m : Mem} (hown : ∀ b, ¬ m.Own b) {cs : List Value} (h : ARep Tryd.prog m reachBytes 41 cs) : ∃ q : StepL × Value, cs = stepC q ∧ (StepIn q.1 ∧ FilesAt m q.2 q.1.files) := by
  obtain ⟨hl, hf⟩ := h.inv_struct Tryd.underlying41
  have hl : cs.length = 7 := hl
  match cs, hl with
  | [c0, c1, c2, c3, c4, c5, c6], _ =>
  obtain ⟨k, e0, w0⟩ := (hf 0 _ rfl).inv_int Tryd.underlying3
  obtain ⟨n, e1, w1⟩ := (hf 1 _ rfl).inv_int Tryd.underlying3
  obtain ⟨v, fs, e2, hr, hlen, hfw⟩ := ARep.list fileC (fun f => f.1.length ≤ 140737488351232 ∧ f.2.length ≤ 140737488351232) (n := 2) Tryd.underlying37 (by kernel_rfl) (fun cs hc => by
    obtain ⟨hl, hf⟩ := hc.inv_struct Tryd.underlying43
    have hl : cs.length = 2 := hl
    match cs, hl with
    | [d0, d1], _ =>
    obtain ⟨s0, g0, z0⟩ := (hf 0 _ rfl).inv_string Tryd.underlying9
    obtain ⟨s1, g1, z1⟩ := (hf 1 _ rfl).inv_string Tryd.underlying9
    replace g0 : [d0] = [.string s0] := g0
    replace g1 : [d1] = [.string s1] := g1
    simp only [List.cons.injEq, and_true] at g0 g1
    subst g0; subst g1
    exact ⟨(s0.data.toList, s1.data.toList), by rw [fileC, ← list_str, ← list_str], z0, z1⟩) (hf 2 _ rfl)
  obtain ⟨s, e3, _⟩ := (hf 3 _ rfl).inv_string Tryd.underlying9
  obtain ⟨_, hg⟩ := (hf 4 _ rfl).inv_struct Tryd.underlying39
  obtain ⟨dr, e4⟩ := (hg 0 _ rfl).inv_bool Tryd.underlying4
  obtain ⟨dl, e5, w5⟩ := (hg 1 _ rfl).inv_int Tryd.underlying3
  obtain ⟨cp, e6, w6⟩ := (hg 2 _ rfl).inv_int Tryd.underlying3
  replace e0 : [c0] = [.int .i64 k] := e0
  replace e1 : [c1] = [.int .i64 n] := e1
  replace e2 : [c2] = [v] := e2
  replace e3 : [c3] = [.string s] := e3
  replace e4 : [c4] = [.bool dr] := e4
  replace e5 : [c5] = [.int .i64 dl] := e5
  replace e6 : [c6] = [.int .i64 cp] := e6
  simp only [List.cons.injEq, and_true] at e0 e1 e2 e3 e4 e5 e6
  subst e0; subst e1; subst e2; subst e3; subst e4; subst e5; subst e6
  refine ⟨(⟨k, n, fs, s.data.toList, dr, dl, cp⟩, c2), by rw [stepC, ← list_str], ⟨isI64_wf w0, isI64_wf w1, isI64_wf w5, isI64_wf w6, hfw⟩, ?_⟩
  obtain ⟨a, cap, e, k1, k2, k3, k4, k5⟩ := hr
  refine ⟨a, cap, e, k2, k3, k4, fun p hp => ?_⟩
  obtain ⟨b, hb, k6⟩ := k5 p hp
  refine ⟨b, hb, fun hne => ?_⟩
  obtain ⟨ro, k7⟩ := k6 (by simpa using hne)
  cases ro with
  | true => exact k7
  | false => exact absurd ⟨_, _, k7⟩ (hown b)
theorem steps_take : ∀ (l : List (StepL × Value)) (n : Nat), (l.flatMap stepC).take (n * 7) = (l.take n).flatMap stepC
  | [], n => by simp
  | x :: r, 0 => by simp
  | x :: r, n + 1 => by
    rw [List.flatMap_cons, List.take_succ_cons, List.flatMap_cons, List.take_append, stepC_len, List.take_of_length_le (by rw [stepC_len]; omega), show (n + 1) * 7 - 7 = n * 7 from by omega, steps_take r n]
theorem steps_200 (get : Nat → Option Blk) (g n c : Nat) (ro : Bool) (cs : List Value) (hg : get g = some (.cells ro 7 cs)) (hc : 200 ≤ c) :
    gSlice Tryd.prog get 27 (.slice (some ⟨g, 0, none⟩) n c) none (some (.int .i64 200)) = some (.slice (some ⟨g, 0, none⟩) 200 c) := by
  unfold gSlice aBound
  simp only [zTy, hg]
  rw [if_pos (by omega)]
  simp
set_option maxRecDepth 100000 in
set_option maxHeartbeats 8000000 in
theorem lawprints_spec (x0 x1 x2 x3 : Int) (h0 : isI64 x0) (h1 : isI64 x1) (h2 : isI64 x2) (h3 : isI64 x3) (LA : List (StepL × Value)) (a : Option Addr) (c : Nat) (s : ByteArray) (m : Mem) (hR : Rd m 7 (.slice a LA.length c) LA.length (LA.flatMap stepC))
    (hwf : ∀ q ∈ LA, StepIn q.1 ∧ FilesAt m q.2 q.1.files) : Abs.Spec Tryd.prog 6 [.int .i64 x0, .int .i64 x1, .int .i64 x2, .int .i64 x3, .slice a LA.length c, .string s] m fun u M => u = .bool true := by
  refine Abs.Spec.walkM Tryd.func6 (by rfl) _ Tryd.results6 _ Tryd.ntmps6 (by simp) ?_
  intro hc hx k
  have hbs : bsize s = s.size := rfl
  refine CW_seq (CW_region ?_)
  simp only [zZ, reduceIte, Nat.reduceLT, Int.reduceToNat, Int.reduceLE, Int.reduceEq, Int.reduceLT, Nat.reduceEqDiff, Nat.reduceAdd, zTy]
  refine CW_seq (CW_seq (CW_region ?_))
  cases g0 : decide (x0 < -1099511627776)
  rotate_left
  · simp only [zZ, reduceIte, Nat.reduceLT, Int.reduceToNat, Int.reduceLE, Int.reduceEq, Int.reduceLT, Nat.reduceEqDiff, Nat.reduceAdd, zTy, g0]
    refine CW_cond true (by rfl) (fun _ => CW_seq (CW_region ?_)) (fun h => by cases h)
    simp only [zZ, reduceIte, Nat.reduceLT, Int.reduceToNat, Int.reduceLE, Int.reduceEq, Int.reduceLT, Nat.reduceEqDiff, Nat.reduceAdd, zTy]
    refine ⟨by kernel_rfl, _, awake_spec _, ?_⟩
    rintro _ M5 ⟨rfl, _⟩
    simp only [zZ, reduceIte, Nat.reduceLT, Int.reduceToNat, Int.reduceLE, Int.reduceEq, Int.reduceLT, Nat.reduceEqDiff, Nat.reduceAdd, zTy]
    refine CW_ret ?_
    simp only [zZ, reduceIte, Nat.reduceLT, Int.reduceToNat, Int.reduceLE, Int.reduceEq, Int.reduceLT, Nat.reduceEqDiff, Nat.reduceAdd, zTy, mEnd, sAnswer, sAnswer.sRes]
    exact ⟨M5, Thin.refl _⟩
  cases g1 : decide (x1 < -1099511627776)
  rotate_left
  · simp only [zZ, reduceIte, Nat.reduceLT, Int.reduceToNat, Int.reduceLE, Int.reduceEq, Int.reduceLT, Nat.reduceEqDiff, Nat.reduceAdd, zTy, g0, g1]
    refine CW_cond true (by rfl) (fun _ => CW_seq (CW_region ?_)) (fun h => by cases h)
    simp only [zZ, reduceIte, Nat.reduceLT, Int.reduceToNat, Int.reduceLE, Int.reduceEq, Int.reduceLT, Nat.reduceEqDiff, Nat.reduceAdd, zTy]
    refine ⟨by kernel_rfl, _, awake_spec _, ?_⟩
    rintro _ M5 ⟨rfl, _⟩
    simp only [zZ, reduceIte, Nat.reduceLT, Int.reduceToNat, Int.reduceLE, Int.reduceEq, Int.reduceLT, Nat.reduceEqDiff, Nat.reduceAdd, zTy]
    refine CW_ret ?_
    simp only [zZ, reduceIte, Nat.reduceLT, Int.reduceToNat, Int.reduceLE, Int.reduceEq, Int.reduceLT, Nat.reduceEqDiff, Nat.reduceAdd, zTy, mEnd, sAnswer, sAnswer.sRes]
    exact ⟨M5, Thin.refl _⟩
  cases g2 : decide (x2 < -1099511627776)
  rotate_left
  · simp only [zZ, reduceIte, Nat.reduceLT, Int.reduceToNat, Int.reduceLE, Int.reduceEq, Int.reduceLT, Nat.reduceEqDiff, Nat.reduceAdd, zTy, g0, g1, g2]
    refine CW_cond true (by rfl) (fun _ => CW_seq (CW_region ?_)) (fun h => by cases h)
    simp only [zZ, reduceIte, Nat.reduceLT, Int.reduceToNat, Int.reduceLE, Int.reduceEq, Int.reduceLT, Nat.reduceEqDiff, Nat.reduceAdd, zTy]
    refine ⟨by kernel_rfl, _, awake_spec _, ?_⟩
    rintro _ M5 ⟨rfl, _⟩
    simp only [zZ, reduceIte, Nat.reduceLT, Int.reduceToNat, Int.reduceLE, Int.reduceEq, Int.reduceLT, Nat.reduceEqDiff, Nat.reduceAdd, zTy]
    refine CW_ret ?_
    simp only [zZ, reduceIte, Nat.reduceLT, Int.reduceToNat, Int.reduceLE, Int.reduceEq, Int.reduceLT, Nat.reduceEqDiff, Nat.reduceAdd, zTy, mEnd, sAnswer, sAnswer.sRes]
    exact ⟨M5, Thin.refl _⟩
  cases g3 : decide (x3 < -1099511627776)
  rotate_left
  · simp only [zZ, reduceIte, Nat.reduceLT, Int.reduceToNat, Int.reduceLE, Int.reduceEq, Int.reduceLT, Nat.reduceEqDiff, Nat.reduceAdd, zTy, g0, g1, g2, g3]
    refine CW_cond true (by rfl) (fun _ => CW_seq (CW_region ?_)) (fun h => by cases h)
    simp only [zZ, reduceIte, Nat.reduceLT, Int.reduceToNat, Int.reduceLE, Int.reduceEq, Int.reduceLT, Nat.reduceEqDiff, Nat.reduceAdd, zTy]
    refine ⟨by kernel_rfl, _, awake_spec _, ?_⟩
    rintro _ M5 ⟨rfl, _⟩
    simp only [zZ, reduceIte, Nat.reduceLT, Int.reduceToNat, Int.reduceLE, Int.reduceEq, Int.reduceLT, Nat.reduceEqDiff, Nat.reduceAdd, zTy]
    refine CW_ret ?_
    simp only [zZ, reduceIte, Nat.reduceLT, Int.reduceToNat, Int.reduceLE, Int.reduceEq, Int.reduceLT, Nat.reduceEqDiff, Nat.reduceAdd, zTy, mEnd, sAnswer, sAnswer.sRes]
    exact ⟨M5, Thin.refl _⟩
  cases g4 : decide ((1000 : Int) < (s.size : Int))
  rotate_left
  · simp only [zZ, reduceIte, Nat.reduceLT, Int.reduceToNat, Int.reduceLE, Int.reduceEq, Int.reduceLT, Nat.reduceEqDiff, Nat.reduceAdd, zTy, g0, g1, g2, g3, hbs, g4]
    refine CW_cond true (by rfl) (fun _ => CW_seq (CW_region ?_)) (fun h => by cases h)
    simp only [zZ, reduceIte, Nat.reduceLT, Int.reduceToNat, Int.reduceLE, Int.reduceEq, Int.reduceLT, Nat.reduceEqDiff, Nat.reduceAdd, zTy]
    refine ⟨by kernel_rfl, _, awake_spec _, ?_⟩
    rintro _ M5 ⟨rfl, _⟩
    simp only [zZ, reduceIte, Nat.reduceLT, Int.reduceToNat, Int.reduceLE, Int.reduceEq, Int.reduceLT, Nat.reduceEqDiff, Nat.reduceAdd, zTy]
    refine CW_ret ?_
    simp only [zZ, reduceIte, Nat.reduceLT, Int.reduceToNat, Int.reduceLE, Int.reduceEq, Int.reduceLT, Nat.reduceEqDiff, Nat.reduceAdd, zTy, mEnd, sAnswer, sAnswer.sRes]
    exact ⟨M5, Thin.refl _⟩
  simp only [zZ, reduceIte, Nat.reduceLT, Int.reduceToNat, Int.reduceLE, Int.reduceEq, Int.reduceLT, Nat.reduceEqDiff, Nat.reduceAdd, zTy, g0, g1, g2, g3, hbs, g4]
  refine CW_cond false (by rfl) (fun h => by cases h) (fun _ => CW_skip ?_)
  simp only [zZ, reduceIte, Nat.reduceLT, Int.reduceToNat, Int.reduceLE, Int.reduceEq, Int.reduceLT, Nat.reduceEqDiff, Nat.reduceAdd]
  refine MW_mid (fun f M => ∃ (LB : List (StepL × Value)) (a' : Option Addr) (c' : Nat), f = [(0, .int .i64 x0), (1, .int .i64 x1), (2, .int .i64 x2), (3, .int .i64 x3), (4, .slice a' LB.length c'), (5, .string s)] ∧ LB.length ≤ 200 ∧
    Rd M 7 (.slice a' LB.length c') LB.length (LB.flatMap stepC) ∧ ∀ q ∈ LB, StepIn q.1 ∧ FilesAt M q.2 q.1.files) (CW_seq (CW_region ?_)) ?_
  · simp only [zZ, reduceIte, Nat.reduceLT, Int.reduceToNat, Int.reduceLE, Int.reduceEq, Int.reduceLT, Nat.reduceEqDiff, Nat.reduceAdd, zTy]
    refine CW_cond (decide ((200 : Int) < (LA.length : Int))) (by rfl) (fun h => ?_) (fun h => CW_skip ?_)
    · have hlt : 200 < LA.length := by have := of_decide_eq_true h; omega
      obtain ⟨ga, ra, hpa, hga⟩ := hR.at (by omega)
      subst hpa
      obtain ⟨_, _, e, hcl, hcap, hmx, _⟩ := id hR
      cases e
      refine CW_cut ⟨ga, ra, 7, _, 1400, hga, by decide, by decide, rfl⟩ ?_
      refine CW_region ?_
      simp only [zZ, reduceIte, Nat.reduceLT, Int.reduceToNat, Int.reduceLE, Int.reduceEq, Int.reduceLT, Nat.reduceEqDiff, Nat.reduceAdd, zTy]
      obtain ⟨m1, hm1⟩ : ∃ m1, m1 = m.set ga (some (Blk.cells ra 7 ((LA.flatMap stepC).take 1400))) := ⟨_, rfl⟩
      have hg1 : m1.get ga = some (.cells ra 7 ((LA.flatMap stepC).take 1400)) := by rw [hm1, Mem.get_set_same hga]
      have hold1 : ∀ b x, m.get b = some x → b ≠ ga → m1.get b = some x := fun b x hx hne => by rw [hm1, Mem.get_set_ne (Ne.symm hne)]; exact hx
      rw [← hm1]
      clear hm1
      have htk : (LA.flatMap stepC).take 1400 = (LA.take 200).flatMap stepC := steps_take LA 200
      rw [htk] at hg1
      have hl2 : (LA.take 200).length = 200 := by rw [List.length_take]; omega
      simp only [zZ, reduceIte, Nat.reduceLT, Int.reduceToNat, Int.reduceLE, Int.reduceEq, Int.reduceLT, Nat.reduceEqDiff, Nat.reduceAdd, zTy, steps_200 _ ga LA.length c ra _ hg1 (by omega)]
      refine ⟨[0, 1, 2, 3, 4, 5], ?_⟩
      simp only [zZ, reduceIte, Nat.reduceLT, Int.reduceToNat, Int.reduceLE, Int.reduceEq, Int.reduceLT, Nat.reduceEqDiff, Nat.reduceAdd, keepF]
      refine ⟨m1, Thin.refl _, LA.take 200, some ⟨ga, 0, none⟩, c, by rw [hl2], by omega, ?_, fun q hq => ⟨(hwf q (List.mem_of_mem_take hq)).1, ?_⟩⟩
      · exact ⟨_, _, rfl, by rw [flatMap_len stepC 7 _ fun x _ => stepC_len x], by omega, hmx, (fun h => by cases h), fun p hp => by cases hp; exact ⟨ga, rfl, fun _ => ⟨ra, hg1⟩⟩⟩
      · obtain ⟨b, cap, e, k2, k3, k4, k5⟩ := (hwf q (List.mem_of_mem_take hq)).2
        refine ⟨b, cap, e, k2, k3, k4, fun p hp => ?_⟩
        obtain ⟨b', e', k6⟩ := k5 p hp
        refine ⟨b', e', fun hne => hold1 _ _ (k6 hne) fun h => ?_⟩
        have k7 := k6 hne
        rw [h, hga] at k7
        cases k7
    · have hle : LA.length ≤ 200 := by have := of_decide_eq_false h; omega
      simp only [zZ, reduceIte, Nat.reduceLT, Int.reduceToNat, Int.reduceLE, Int.reduceEq, Int.reduceLT, Nat.reduceEqDiff, Nat.reduceAdd, zTy]
      refine ⟨[0, 1, 2, 3, 4, 5], ?_⟩
      simp only [zZ, reduceIte, Nat.reduceLT, Int.reduceToNat, Int.reduceLE, Int.reduceEq, Int.reduceLT, Nat.reduceEqDiff, Nat.reduceAdd, keepF]
      exact ⟨m, Thin.refl _, LA, a, c, rfl, hle, hR, hwf⟩
  · rintro f M ⟨LB, a', c', rfl, hl, hR, hwf⟩
    clear hbs
    refine MW_mid (fun f M' => M' = M ∧ f = [(0, .int .i64 x0), (1, .int .i64 x1), (2, .int .i64 x2), (3, .int .i64 x3), (4, .slice a' LB.length c'), (5, .string s)] ∧ ∀ q ∈ LB, StepSmall q.1 ∧ FilesSmall q.1) (CW_seq (CW_region ?_)) ?_
    · simp only [zZ, reduceIte, Nat.reduceLT, Int.reduceToNat, Int.reduceLE, Int.reduceEq, Int.reduceLT, Nat.reduceEqDiff, Nat.reduceAdd, zTy]
      refine CW_block (MW_loop (fun j f M' => ∃ i : Nat, i + j = LB.length ∧ M' = M ∧ f = [(0, .int .i64 x0), (1, .int .i64 x1), (2, .int .i64 x2), (3, .int .i64 x3), (4, .slice a' LB.length c'), (5, .string s), (13, .int .i64 ((i : Nat) : Int))] ∧ ∀ q ∈ LB.take i, StepSmall q.1 ∧ FilesSmall q.1) LB.length ?_ ?_)
      · refine ⟨[0, 1, 2, 3, 4, 5, 13], ?_⟩
        simp only [zZ, reduceIte, Nat.reduceLT, Int.reduceToNat, Int.reduceLE, Int.reduceEq, Int.reduceLT, Nat.reduceEqDiff, Nat.reduceAdd, keepF]
        exact ⟨M, Thin.refl _, 0, by omega, rfl, rfl, fun q hq => by simp at hq⟩
      · rintro j f M' ⟨i, hij, rfl, rfl, hsm⟩
        refine CW_seq (CW_seq (CW_region ?_))
        simp only [zZ, reduceIte, Nat.reduceLT, Int.reduceToNat, Int.reduceLE, Int.reduceEq, Int.reduceLT, Nat.reduceEqDiff, Nat.reduceAdd, zTy]
        refine CW_cond (decide ((i : Int) < (LB.length : Int))) (by rfl) (fun h => CW_skip ?_) (fun h => CW_exit ?_)
        · simp only [zZ, reduceIte, Nat.reduceLT, Int.reduceToNat, Int.reduceLE, Int.reduceEq, Int.reduceLT, Nat.reduceEqDiff, Nat.reduceAdd]
          have hil : i < LB.length := by have := of_decide_eq_true h; omega
          have e0 : (0 : Int) ≤ (i : Int) := by omega
          have e1 : (i : Int) < (LB.length : Int) := by omega
          obtain ⟨ga, ra, hpa, hga⟩ := hR.at (by omega)
          subst hpa
          obtain ⟨⟨y, V⟩, hX⟩ : ∃ A, LB[i]? = some A := ⟨_, List.getElem?_eq_getElem (by omega)⟩
          obtain ⟨hyin, hV⟩ := hwf _ (List.mem_of_getElem? hX)
          simp only at hV hyin
          obtain ⟨va, vc, rfl⟩ := hV.rd.len
          have r1 : rowIn 7 (i * 7) (some (.cells ra 7 (LB.flatMap stepC))) = some (.agg #[.int .i64 y.kind, .int .i64 y.n, .slice va y.files.length vc, .string (str y.text), .bool y.drop, .int .i64 y.delay, .int .i64 y.copies]) := rowIn_at (n := 7) (fun a _ => stepC_len a) hX ra 7
          have ti : IntKind.i64.wrap ((i : Int) + 1) = ((i + 1 : Nat) : Int) := by rw [wr (by omega) (by omega)]; omega
          refine MW_mid (fun f M => M = M' ∧ f = [(0, .int .i64 x0), (1, .int .i64 x1), (2, .int .i64 x2), (3, .int .i64 x3), (4, .slice (some ⟨ga, 0, none⟩) LB.length c'), (5, .string s), (13, .int .i64 ((i : Nat) : Int))] ∧ StepSmall y ∧ FilesSmall y) (CW_block (CW_seq (CW_seq (CW_region ?_)))) ?_
          · have hce : ∀ o v, o < 7 → (stepC (y, .slice va y.files.length vc))[o]? = some v → (LB.flatMap stepC)[i * 7 + o]? = some v := fun o v ho hv => by rw [flatMap_get (fun x _ => stepC_len x) hX ho]; exact hv
            have c1 := hce 1 _ (by decide) rfl
            have c2 := hce 2 _ (by decide) rfl
            have c3 := hce 3 _ (by decide) rfl
            have c5 := hce 5 _ (by decide) rfl
            have c6 := hce 6 _ (by decide) rfl
            simp only at c1 c2 c3 c5 c6
            cases q1 : decide ((5000 : Int) < (y.text.length : Int))
            rotate_left
            · simp only [zZ, reduceIte, Nat.reduceLT, Int.reduceToNat, Int.reduceLE, Int.reduceEq, Int.reduceLT, Nat.reduceEqDiff, Nat.reduceAdd, zTy, e0, e1, and_self, hga, r1, c1, c2, c3, c5, c6, bsize_str, q1]
              refine CW_cond true (by rfl) (fun _ => CW_seq (CW_region ?_)) (fun h => by cases h)
              simp only [zZ, reduceIte, Nat.reduceLT, Int.reduceToNat, Int.reduceLE, Int.reduceEq, Int.reduceLT, Nat.reduceEqDiff, Nat.reduceAdd, zTy]
              refine ⟨by kernel_rfl, _, awake_spec _, ?_⟩
              rintro _ M5 ⟨rfl, _⟩
              simp only [zZ, reduceIte, Nat.reduceLT, Int.reduceToNat, Int.reduceLE, Int.reduceEq, Int.reduceLT, Nat.reduceEqDiff, Nat.reduceAdd, zTy]
              refine CW_ret ?_
              simp only [zZ, reduceIte, Nat.reduceLT, Int.reduceToNat, Int.reduceLE, Int.reduceEq, Int.reduceLT, Nat.reduceEqDiff, Nat.reduceAdd, zTy, mEnd, sAnswer, sAnswer.sRes]
              exact ⟨M5, Thin.refl _⟩
            cases q2 : decide ((20 : Int) < (y.files.length : Int))
            rotate_left
            · simp only [zZ, reduceIte, Nat.reduceLT, Int.reduceToNat, Int.reduceLE, Int.reduceEq, Int.reduceLT, Nat.reduceEqDiff, Nat.reduceAdd, zTy, e0, e1, and_self, hga, r1, c1, c2, c3, c5, c6, bsize_str, q1, q2]
              refine CW_cond true (by rfl) (fun _ => CW_seq (CW_region ?_)) (fun h => by cases h)
              simp only [zZ, reduceIte, Nat.reduceLT, Int.reduceToNat, Int.reduceLE, Int.reduceEq, Int.reduceLT, Nat.reduceEqDiff, Nat.reduceAdd, zTy]
              refine ⟨by kernel_rfl, _, awake_spec _, ?_⟩
              rintro _ M5 ⟨rfl, _⟩
              simp only [zZ, reduceIte, Nat.reduceLT, Int.reduceToNat, Int.reduceLE, Int.reduceEq, Int.reduceLT, Nat.reduceEqDiff, Nat.reduceAdd, zTy]
              refine CW_ret ?_
              simp only [zZ, reduceIte, Nat.reduceLT, Int.reduceToNat, Int.reduceLE, Int.reduceEq, Int.reduceLT, Nat.reduceEqDiff, Nat.reduceAdd, zTy, mEnd, sAnswer, sAnswer.sRes]
              exact ⟨M5, Thin.refl _⟩
            cases q3 : decide (y.n < -1099511627776)
            rotate_left
            · simp only [zZ, reduceIte, Nat.reduceLT, Int.reduceToNat, Int.reduceLE, Int.reduceEq, Int.reduceLT, Nat.reduceEqDiff, Nat.reduceAdd, zTy, e0, e1, and_self, hga, r1, c1, c2, c3, c5, c6, bsize_str, q1, q2, q3]
              refine CW_cond true (by rfl) (fun _ => CW_seq (CW_region ?_)) (fun h => by cases h)
              simp only [zZ, reduceIte, Nat.reduceLT, Int.reduceToNat, Int.reduceLE, Int.reduceEq, Int.reduceLT, Nat.reduceEqDiff, Nat.reduceAdd, zTy]
              refine ⟨by kernel_rfl, _, awake_spec _, ?_⟩
              rintro _ M5 ⟨rfl, _⟩
              simp only [zZ, reduceIte, Nat.reduceLT, Int.reduceToNat, Int.reduceLE, Int.reduceEq, Int.reduceLT, Nat.reduceEqDiff, Nat.reduceAdd, zTy]
              refine CW_ret ?_
              simp only [zZ, reduceIte, Nat.reduceLT, Int.reduceToNat, Int.reduceLE, Int.reduceEq, Int.reduceLT, Nat.reduceEqDiff, Nat.reduceAdd, zTy, mEnd, sAnswer, sAnswer.sRes]
              exact ⟨M5, Thin.refl _⟩
            cases q4 : decide (y.delay < -1099511627776)
            rotate_left
            · simp only [zZ, reduceIte, Nat.reduceLT, Int.reduceToNat, Int.reduceLE, Int.reduceEq, Int.reduceLT, Nat.reduceEqDiff, Nat.reduceAdd, zTy, e0, e1, and_self, hga, r1, c1, c2, c3, c5, c6, bsize_str, q1, q2, q3, q4]
              refine CW_cond true (by rfl) (fun _ => CW_seq (CW_region ?_)) (fun h => by cases h)
              simp only [zZ, reduceIte, Nat.reduceLT, Int.reduceToNat, Int.reduceLE, Int.reduceEq, Int.reduceLT, Nat.reduceEqDiff, Nat.reduceAdd, zTy]
              refine ⟨by kernel_rfl, _, awake_spec _, ?_⟩
              rintro _ M5 ⟨rfl, _⟩
              simp only [zZ, reduceIte, Nat.reduceLT, Int.reduceToNat, Int.reduceLE, Int.reduceEq, Int.reduceLT, Nat.reduceEqDiff, Nat.reduceAdd, zTy]
              refine CW_ret ?_
              simp only [zZ, reduceIte, Nat.reduceLT, Int.reduceToNat, Int.reduceLE, Int.reduceEq, Int.reduceLT, Nat.reduceEqDiff, Nat.reduceAdd, zTy, mEnd, sAnswer, sAnswer.sRes]
              exact ⟨M5, Thin.refl _⟩
            cases q5 : decide (y.copies < -1099511627776)
            rotate_left
            · simp only [zZ, reduceIte, Nat.reduceLT, Int.reduceToNat, Int.reduceLE, Int.reduceEq, Int.reduceLT, Nat.reduceEqDiff, Nat.reduceAdd, zTy, e0, e1, and_self, hga, r1, c1, c2, c3, c5, c6, bsize_str, q1, q2, q3, q4, q5]
              refine CW_cond true (by rfl) (fun _ => CW_seq (CW_region ?_)) (fun h => by cases h)
              simp only [zZ, reduceIte, Nat.reduceLT, Int.reduceToNat, Int.reduceLE, Int.reduceEq, Int.reduceLT, Nat.reduceEqDiff, Nat.reduceAdd, zTy]
              refine ⟨by kernel_rfl, _, awake_spec _, ?_⟩
              rintro _ M5 ⟨rfl, _⟩
              simp only [zZ, reduceIte, Nat.reduceLT, Int.reduceToNat, Int.reduceLE, Int.reduceEq, Int.reduceLT, Nat.reduceEqDiff, Nat.reduceAdd, zTy]
              refine CW_ret ?_
              simp only [zZ, reduceIte, Nat.reduceLT, Int.reduceToNat, Int.reduceLE, Int.reduceEq, Int.reduceLT, Nat.reduceEqDiff, Nat.reduceAdd, zTy, mEnd, sAnswer, sAnswer.sRes]
              exact ⟨M5, Thin.refl _⟩
            simp only [zZ, reduceIte, Nat.reduceLT, Int.reduceToNat, Int.reduceLE, Int.reduceEq, Int.reduceLT, Nat.reduceEqDiff, Nat.reduceAdd, zTy, e0, e1, and_self, hga, r1, c1, c2, c3, c5, c6, bsize_str, q1, q2, q3, q4, q5]
            refine CW_cond false (by rfl) (fun h => by cases h) (fun _ => CW_skip ?_)
            simp only [zZ, reduceIte, Nat.reduceLT, Int.reduceToNat, Int.reduceLE, Int.reduceEq, Int.reduceLT, Nat.reduceEqDiff, Nat.reduceAdd]
            have hss : StepSmall y := by
              have u1 := of_decide_eq_false q1
              have u2 := of_decide_eq_false q2
              exact ⟨by omega, by omega, of_decide_eq_false q3, of_decide_eq_false q4, of_decide_eq_false q5⟩
            refine CW_seq (CW_region ?_)
            simp only [zZ, reduceIte, Nat.reduceLT, Int.reduceToNat, Int.reduceLE, Int.reduceEq, Int.reduceLT, Nat.reduceEqDiff, Nat.reduceAdd, zTy]
            refine CW_block (MW_loop (fun j f M => ∃ n : Nat, n + j = y.files.length ∧ M = M' ∧ f = [(0, .int .i64 x0), (1, .int .i64 x1), (2, .int .i64 x2), (3, .int .i64 x3), (4, .slice (some ⟨ga, 0, none⟩) LB.length c'), (5, .string s), (13, .int .i64 ((i : Nat) : Int)), (14, .int .i64 ((n : Nat) : Int))] ∧ ∀ g ∈ y.files.take n, g.1.length + g.2.length ≤ 5000) y.files.length ?_ ?_)
            · refine ⟨[0, 1, 2, 3, 4, 5, 13, 14], ?_⟩
              simp only [zZ, reduceIte, Nat.reduceLT, Int.reduceToNat, Int.reduceLE, Int.reduceEq, Int.reduceLT, Nat.reduceEqDiff, Nat.reduceAdd, keepF]
              exact ⟨M', Thin.refl _, 0, by omega, rfl, rfl, fun q hq => by simp at hq⟩
            · rintro j2 f M ⟨n, hnj, rfl, rfl, hfs⟩
              refine CW_seq (CW_seq (CW_region ?_))
              simp only [zZ, reduceIte, Nat.reduceLT, Int.reduceToNat, Int.reduceLE, Int.reduceEq, Int.reduceLT, Nat.reduceEqDiff, Nat.reduceAdd, zTy, e0, e1, and_self, hga, c2]
              refine CW_cond (decide ((n : Int) < (y.files.length : Int))) (by rfl) (fun h => CW_skip ?_) (fun h => CW_exit ?_)
              · simp only [zZ, reduceIte, Nat.reduceLT, Int.reduceToNat, Int.reduceLE, Int.reduceEq, Int.reduceLT, Nat.reduceEqDiff, Nat.reduceAdd]
                have hnl : n < y.files.length := by have := of_decide_eq_true h; omega
                have n0 : (0 : Int) ≤ (n : Int) := by omega
                have n1 : (n : Int) < (y.files.length : Int) := by omega
                obtain ⟨fb, rf, hpf, hfb⟩ := hV.rd.at (by omega)
                subst hpf
                obtain ⟨g, hG⟩ : ∃ g, y.files[n]? = some g := ⟨_, List.getElem?_eq_getElem hnl⟩
                have d0 : (y.files.flatMap fileC)[n * 2]? = some (.string (str g.1)) := by have := flatMap_get (fun x _ => fileC_len x) hG (o := 0) (by decide); exact this
                have d1 : (y.files.flatMap fileC)[n * 2 + 1]? = some (.string (str g.2)) := by have := flatMap_get (fun x _ => fileC_len x) hG (o := 1) (by decide); exact this
                have hn20 := hss.2.1
                have tn : IntKind.i64.wrap ((n : Int) + 1) = ((n + 1 : Nat) : Int) := by rw [wr (by omega) (by omega)]; omega
                refine MW_mid (fun f M' => M' = M ∧ f = [(0, .int .i64 x0), (1, .int .i64 x1), (2, .int .i64 x2), (3, .int .i64 x3), (4, .slice (some ⟨ga, 0, none⟩) LB.length c'), (5, .string s), (13, .int .i64 ((i : Nat) : Int)), (14, .int .i64 ((n : Nat) : Int))] ∧ g.1.length + g.2.length ≤ 5000) (CW_block (CW_seq (CW_draw hmix 20 (by kernel_rfl) (by kernel_rfl) ?_))) ?_
                · simp only [zZ, reduceIte, Nat.reduceLT, Int.reduceToNat, Int.reduceLE, Int.reduceEq, Int.reduceLT, Nat.reduceEqDiff, Nat.reduceAdd, zTy, e0, e1, and_self, hga, c2, n0, n1, hfb, d0, d1, bsize_str]
                  obtain ⟨z1, z2⟩ := hyin.file g (List.mem_of_getElem? hG)
                  have tw : IntKind.i64.wrap ((g.1.length : Int) + (g.2.length : Int)) = ((g.1.length + g.2.length : Nat) : Int) := by rw [wr (by omega) (by omega)]; omega
                  simp only [tw]
                  refine CW_cond (decide (((g.1.length + g.2.length : Nat) : Int) > 5000)) (by rfl) (fun h => CW_seq (CW_region ?_)) (fun h => CW_skip ?_)
                  · simp only [zZ, reduceIte, Nat.reduceLT, Int.reduceToNat, Int.reduceLE, Int.reduceEq, Int.reduceLT, Nat.reduceEqDiff, Nat.reduceAdd, zTy]
                    refine ⟨by kernel_rfl, _, awake_spec _, ?_⟩
                    rintro _ M5 ⟨rfl, _⟩
                    simp only [zZ, reduceIte, Nat.reduceLT, Int.reduceToNat, Int.reduceLE, Int.reduceEq, Int.reduceLT, Nat.reduceEqDiff, Nat.reduceAdd, zTy]
                    refine CW_ret ?_
                    simp only [zZ, reduceIte, Nat.reduceLT, Int.reduceToNat, Int.reduceLE, Int.reduceEq, Int.reduceLT, Nat.reduceEqDiff, Nat.reduceAdd, zTy, mEnd, sAnswer, sAnswer.sRes]
                    exact ⟨M5, Thin.refl _⟩
                  · have hg5 : g.1.length + g.2.length ≤ 5000 := by have := of_decide_eq_false h; omega
                    simp only [zZ, reduceIte, Nat.reduceLT, Int.reduceToNat, Int.reduceLE, Int.reduceEq, Int.reduceLT, Nat.reduceEqDiff, Nat.reduceAdd, zTy]
                    refine ⟨[0, 1, 2, 3, 4, 5, 13, 14], ?_⟩
                    simp only [zZ, reduceIte, Nat.reduceLT, Int.reduceToNat, Int.reduceLE, Int.reduceEq, Int.reduceLT, Nat.reduceEqDiff, Nat.reduceAdd, keepF]
                    exact ⟨_, Thin.refl _, rfl, hg5⟩
                · rintro f M' ⟨rfl, rfl, hg⟩
                  refine CW_region ?_
                  simp only [zZ, reduceIte, Nat.reduceLT, Int.reduceToNat, Int.reduceLE, Int.reduceEq, Int.reduceLT, Nat.reduceEqDiff, Nat.reduceAdd, zTy, tn]
                  refine ⟨[0, 1, 2, 3, 4, 5, 13, 14], ?_⟩
                  simp only [zZ, reduceIte, Nat.reduceLT, Int.reduceToNat, Int.reduceLE, Int.reduceEq, Int.reduceLT, Nat.reduceEqDiff, Nat.reduceAdd, keepF]
                  refine ⟨_, Thin.refl _, y.files.length - (n + 1), ⟨n + 1, by omega, rfl, rfl, fun q hq => ?_⟩, by omega⟩
                  rw [List.take_add_one, hG] at hq
                  rcases List.mem_append.mp hq with h | h
                  · exact hfs q h
                  · simp only [Option.toList_some, List.mem_singleton] at h
                    subst h
                    exact hg
              · have hjl : n = y.files.length := by have := of_decide_eq_false h; omega
                subst hjl
                simp only [zZ, reduceIte, Nat.reduceLT, Int.reduceToNat, Int.reduceLE, Int.reduceEq, Int.reduceLT, Nat.reduceEqDiff, Nat.reduceAdd, zTy]
                refine ⟨[0, 1, 2, 3, 4, 5, 13], ?_⟩
                simp only [zZ, reduceIte, Nat.reduceLT, Int.reduceToNat, Int.reduceLE, Int.reduceEq, Int.reduceLT, Nat.reduceEqDiff, Nat.reduceAdd, keepF]
                exact ⟨_, Thin.refl _, rfl, hss, fun q hq => hfs q (by rw [List.take_length]; exact hq)⟩
          · rintro f M ⟨rfl, rfl, hs1, hs2⟩
            refine CW_region ?_
            simp only [zZ, reduceIte, Nat.reduceLT, Int.reduceToNat, Int.reduceLE, Int.reduceEq, Int.reduceLT, Nat.reduceEqDiff, Nat.reduceAdd, zTy, ti]
            refine ⟨[0, 1, 2, 3, 4, 5, 13], ?_⟩
            simp only [zZ, reduceIte, Nat.reduceLT, Int.reduceToNat, Int.reduceLE, Int.reduceEq, Int.reduceLT, Nat.reduceEqDiff, Nat.reduceAdd, keepF]
            refine ⟨M, Thin.refl _, LB.length - (i + 1), ⟨i + 1, by omega, rfl, rfl, fun q hq => ?_⟩, by omega⟩
            rw [List.take_add_one, hX] at hq
            rcases List.mem_append.mp hq with h | h
            · exact hsm q h
            · simp only [Option.toList_some, List.mem_singleton] at h
              subst h
              exact ⟨hs1, hs2⟩
        · have hjl : i = LB.length := by have := of_decide_eq_false h; omega
          subst hjl
          simp only [zZ, reduceIte, Nat.reduceLT, Int.reduceToNat, Int.reduceLE, Int.reduceEq, Int.reduceLT, Nat.reduceEqDiff, Nat.reduceAdd, zTy]
          refine ⟨[0, 1, 2, 3, 4, 5], ?_⟩
          simp only [zZ, reduceIte, Nat.reduceLT, Int.reduceToNat, Int.reduceLE, Int.reduceEq, Int.reduceLT, Nat.reduceEqDiff, Nat.reduceAdd, keepF]
          exact ⟨M', Thin.refl _, rfl, fun q hq => hsm q (by rw [List.take_length]; exact hq)⟩
    · rintro f M' ⟨rfl, rfl, hsm⟩
      have hal := al_Scr
      generalize aStride Tryd.prog 29 = s1 at hal
      have hal2 := al_Cfg
      generalize aStride Tryd.prog 45 = s2 at hal2
      refine CW_seq (CW_region ?_)
      simp only [zZ, reduceIte, Nat.reduceLT, Int.reduceToNat, Int.reduceLE, Int.reduceEq, Int.reduceLT, Nat.reduceEqDiff, Nat.reduceAdd, zTy, build_fair2, build_scr5, hal, Mem.get_push_new, push_set]
      have hA0 : ScrAt M' (.slice a' (LB.map Prod.fst).length c') (LB.map Prod.fst) := ⟨LB, rfl, fun q hq => (hwf q hq).2, by rw [List.length_map]; exact hR⟩
      obtain ⟨M1, hM1⟩ : ∃ M1, M1 = M'.push (.cells false s1 [.int .i64 x0, .int .i64 x1, .int .i64 x2, .int .i64 x3, .slice a' LB.length c']) := ⟨_, rfl⟩
      rw [← hM1]
      have hold1 : ∀ b x, M'.get b = some x → M1.get b = some x := fun b x hx => by rw [hM1, Mem.get_push_old (get_live hx)]; exact hx
      have hb1 : M1.get M'.size = some (.cells false s1 [.int .i64 x0, .int .i64 x1, .int .i64 x2, .int .i64 x3, .slice a' LB.length c']) := by rw [hM1, Mem.get_push_new]
      have hA1 := ScrAt.keep hA0 hold1
      clear hM1
      have hcs := config_spec (x0, x1, x2, x3, LB.map Prod.fst) a' LB.length c' s M1
      simp only [scrAgg] at hcs
      refine CW_seq (CW_region ?_)
      simp only [zZ, reduceIte, Nat.reduceLT, Int.reduceToNat, Int.reduceLE, Int.reduceEq, Int.reduceLT, Nat.reduceEqDiff, Nat.reduceAdd, zTy, hb1]
      refine ⟨by kernel_rfl, _, hcs, ?_⟩
      rintro _ M2 ⟨rfl, hk2⟩
      have hold2 := keeps_old hk2
      have hb2 := hold2 _ _ hb1
      have hA2 := ScrAt.keep hA1 hold2
      simp only [zZ, reduceIte, Nat.reduceLT, Int.reduceToNat, Int.reduceLE, Int.reduceEq, Int.reduceLT, Nat.reduceEqDiff, Nat.reduceAdd, zTy, hal2, Mem.get_push_new, push_set, st_Cfg]
      obtain ⟨M3, hM3⟩ : ∃ M3, M3 = M2.push (.cells false s2 [.string s, .int .i64 x0, .int .i64 x1, .int .i64 x2, .int .i64 x3]) := ⟨_, rfl⟩
      rw [← hM3]
      have hold3 : ∀ b x, M2.get b = some x → M3.get b = some x := fun b x hx => by rw [hM3, Mem.get_push_old (get_live hx)]; exact hx
      have hc3 : M3.get M2.size = some (.cells false s2 [.string s, .int .i64 x0, .int .i64 x1, .int .i64 x2, .int .i64 x3]) := by rw [hM3, Mem.get_push_new]
      have hb3 := hold3 _ _ hb2
      have hA3 := ScrAt.keep hA2 hold3
      clear hM3
      have hpl : (printV (x0, x1, x2, x3, LB.map Prod.fst)).length ≤ 1000000000 := by
        have l0 := itoa_len x0 h0
        have l1 := itoa_len x1 h1
        have l2 := itoa_len x2 h2
        have l3 := itoa_len x3 h3
        have n1 := nt_len (LB.map Prod.fst) fun y hy => by
          obtain ⟨q, hq, rfl⟩ := List.mem_map.mp hy
          have hi := (hwf q hq).1
          exact line_len (hsm q hq).1 (hsm q hq).2 hi.n hi.delay hi.copies
        have n2 := printB_len (LB.map Prod.fst) 0 (by decide)
        rw [List.length_map] at n1 n2
        have n3 : LB.length * 1000000 ≤ 200 * 1000000 := Nat.mul_le_mul_right _ hl
        simp only [printV, lineL, join_cons2, join_one, List.length_append, List.length_cons, List.length_nil]
        omega
      have hso : ∀ y ∈ LB.map Prod.fst, StepOk y ∧ -9223372036854775808 < y.n ∧ -9223372036854775808 < y.delay ∧ -9223372036854775808 < y.copies := fun y hy => by
        obtain ⟨q, hq, rfl⟩ := List.mem_map.mp hy
        have hi := (hwf q hq).1
        obtain ⟨⟨g1, g2, g3, g4, g5⟩, hf⟩ := hsm q hq
        exact ⟨⟨hi.n, hi.delay, hi.copies, by omega, by omega, fun f hf2 => by have := hf f hf2; omega⟩, by omega, by omega, by omega⟩
      have hpr := print_spec (x0, x1, x2, x3, LB.map Prod.fst) a' c' M3 hA3 h0 h1 h2 h3 (by simp only [List.length_map]; omega) (fun y hy => (hso y hy).1) (by omega)
      simp only [scrAgg, List.length_map] at hpr
      obtain ⟨T, hT⟩ : ∃ T, T = printV (x0, x1, x2, x3, LB.map Prod.fst) := ⟨_, rfl⟩
      refine CW_seq (CW_region ?_)
      simp only [zZ, reduceIte, Nat.reduceLT, Int.reduceToNat, Int.reduceLE, Int.reduceEq, Int.reduceLT, Nat.reduceEqDiff, Nat.reduceAdd, zTy, hb3]
      rw [← hT] at hpr
      refine ⟨by kernel_rfl, _, hpr, ?_⟩
      rintro _ M4 ⟨rfl, hk4⟩
      have hold4 := keeps_old hk4
      have hA4 := ScrAt.keep hA3 hold4
      have hc4 := hold4 _ _ hc3
      have hq0 := of_decide_eq_false g0
      have hq1 := of_decide_eq_false g1
      have hq2 := of_decide_eq_false g2
      have hq3 := of_decide_eq_false g3
      have hrp := rprint_spec (x0, x1, x2, x3, LB.map Prod.fst) a' c' M4 hA4 h0 h1 h2 h3 ⟨by simp only; omega, by simp only; omega, by simp only; omega, by simp only; omega⟩ (by simp only [List.length_map]; omega) hso (by omega)
      simp only [scrAgg, List.length_map] at hrp
      rw [← hT] at hrp
      simp only [zZ, reduceIte, Nat.reduceLT, Int.reduceToNat, Int.reduceLE, Int.reduceEq, Int.reduceLT, Nat.reduceEqDiff, Nat.reduceAdd, zTy, build_rscr5]
      refine ⟨by kernel_rfl, _, hrp, ?_⟩
      rintro _ M5 ⟨rfl, hk5⟩
      have hc5 := keeps_old hk5 _ _ hc4
      have hb : beqB (str T) (str T) = true := by rw [beqB_str]; exact decide_eq_true rfl
      have rc : ∀ cs : List Value, cs.length = 5 → rowIn 5 0 (some (.cells false s2 cs)) = some (.agg cs.toArray) := fun cs h => rowIn_whole h
      have rc5 := rc [.string s, .int .i64 x0, .int .i64 x1, .int .i64 x2, .int .i64 x3] rfl
      simp only [zZ, reduceIte, Nat.reduceLT, Int.reduceToNat, Int.reduceLE, Int.reduceEq, Int.reduceLT, Nat.reduceEqDiff, Nat.reduceAdd, zTy, hb, ld_Cfg, hc5, rc5, build_fair2, build_cfg, eq_cfg]
      refine ⟨by kernel_rfl, _, awake_spec _, ?_⟩
      rintro _ M6 ⟨rfl, _⟩
      simp only [zZ, reduceIte, Nat.reduceLT, Int.reduceToNat, Int.reduceLE, Int.reduceEq, Int.reduceLT, Nat.reduceEqDiff, Nat.reduceAdd, zTy]
      refine CW_ret ?_
      simp only [zZ, reduceIte, Nat.reduceLT, Int.reduceToNat, Int.reduceLE, Int.reduceEq, Int.reduceLT, Nat.reduceEqDiff, Nat.reduceAdd, zTy, mEnd, sAnswer, sAnswer.sRes]
      exact ⟨M6, Thin.refl _⟩
end Go.Proofs.YthcleiegefhmdaaDoor
namespace Go.Proofs.YthcleiegefhmdaaDoor
open Go.ChangeShapes Go.WideShapes Go.ChangeAt Go.RowKit Abs
theorem tab_of_reads {P : Program} {W : World} {name : String} {k : IntKind} {zs : List Int} {g : Nat} {t e : TypeId} {n : Nat}
    (hg : P.globalNamed name = some g) (hty : (P.globals[g]?).map (·.type) = some t) (ht : P.underlying t = some (.array n e)) (he : P.underlying e = some (.int k)) (hce : P.cellsOf e = 1) (hct : P.cellsOf t = n)
    (h : Lib.VarReads P W name (Lib.tabData k zs)) : Lib.TabIs P W name k zs := by
  obtain ⟨g', t', cs, fuel, p, hg', ht', hvar, hd⟩ := h
  obtain rfl := Option.some.inj (hg.symm.trans hg')
  obtain rfl := Option.some.inj (hty.symm.trans ht')
  unfold Lib.TabIs
  rw [hvar, ← Lib.cells_of_tab ht he hce hct hd]
theorem err_of_reads {P : Program} {W : World} {name : String} {d : DataW Unit} {g : Nat} {t : TypeId} {ms : Array (String × TypeId)}
    (hg : P.globalNamed name = some g) (hty : (P.globals[g]?).map (·.type) = some t) (ht : P.underlying t = some (.interface ms)) (h : Lib.VarReads P W name d) :
    ∃ ev, W.cell? ⟨g, 0, none⟩ = some ev ∧ (ev = .nilIface ∨ ∃ te pe, ev = .iface te pe) := by
  obtain ⟨g', t', cs, fuel, p, hg', ht', hvar, hd⟩ := h
  obtain rfl := Option.some.inj (hg.symm.trans hg')
  obtain rfl := Option.some.inj (hty.symm.trans ht')
  have hc := World.var?_cell hg hvar 0
  obtain ⟨l⟩ := cs
  cases fuel with
  | zero => simp [DataW.trod] at hd
  | succ fuel =>
    unfold DataW.trod at hd
    rw [ht] at hd
    rcases l with _ | ⟨v, _ | ⟨b, r⟩⟩
    · simp at hd
    · cases v <;> first | (simp at hd; done) | exact ⟨_, hc.trans rfl, .inl rfl⟩ | exact ⟨_, hc.trans rfl, .inr ⟨_, _, rfl⟩⟩
    · cases v <;> simp at hd
theorem returns_of_walked_card {C : Checked} {os : Os} {n : FuncId} {f : Func} {s : ChangeSpec} {tb : TypeId} {laid : List (String × DataW Unit)} (own : ownKnob C.prog.godebug = none) (started : os.Started)
    (noInit : C.prog.inits.idxOf? n = none) (hf : C.prog.funcs[n]? = some f) (hl : laidOutB C.prog = true)
    (hs : IsLaw s f.params.size) (hr : f.resultTypes = #[tb]) (hu : C.prog.underlying tb = some .bool) (hp : ∀ t ∈ f.params.toList, C.prog.readableRec t = true ∧ t < C.prog.types.size)
    (hpl : (laid.all fun x => x.2.handleName?.isNone) = true)
    {H : Type} {enc : TypeId × Value → H} (F : Stop.Interp)
    (witness : ∃ (w : World) (tape : Tape) (i : Input), w.os = os ∧ (w.forCall tape i).Shaped C.prog ∧ i.vars = [] ∧ Input.okWide C.prog (w.forCall tape i) .any w.heap.size n i ∧
      (OpenSpec.ofChange s).preRow enc C.prog f [] false laid (w.forCall tape i).memory i.args ∧ Assume.holds {} C.prog (lone (Frame.enter C.prog n i.args .normal) [] (w.forCall tape i)))
    (walk : ∀ (W : World) (base : Nat) (args : Array Value) (ds : List (DataW H)) (ps : List MemPlace), laidMet C.prog laid W → W.ShapedOpen C.prog → (∀ (j : Nat) t v, f.params[j]? = some t → args[j]? = some v → Value.okWide C.prog W .any base t v) →
      DataW.TrodAll enc C.prog W 0 (fun _ => true) true f.params.toList args.toList ds ps → (∀ x ∈ DataW.weightsEach C.prog f.params.toList ds, x ≤ reachBytes) →
      Calls C.prog n args W fun e W' => e = .returned (.bool true) ∧ Below W.heap.size W W') :
    ReturnsInHanded {} C os n .any ((OpenSpec.ofChange s).preRow enc C.prog f [] false laid) (((OpenSpec.ofChange s).at F).post enc C.prog f false true false false) := by
  refine returnsInHanded_of_row (C := C) (s := OpenSpec.ofChange s) own started noInit hf witness ?_
  intro W base args ds gs before hval hW _ _ hz hL hS _
  obtain ⟨p, q, hA, hV, rfl, hfz, hnd⟩ := id hW
  have hv : (OpenSpec.ofChange s).vars = [] := hs.1
  have hv0 : s.vars = [] := hs.1
  rw [hv] at hV
  obtain ⟨rfl, rfl⟩ := trodVars_none hV
  rw [List.append_nil] at hz
  have hz' : ∀ x ∈ DataW.weightsEach C.prog f.params.toList ds, x ≤ reachBytes := by
    have e : (OpenSpec.ofChange s).bare.plain.varTypes C.prog = [] := by
      show s.plain.varTypes C.prog = []
      simp [ChangeSpec.plain, hv0, DataSpec.varTypes]
    rw [e, List.append_nil] at hz
    intro x hx
    simpa using List.all_eq_true.1 hz x hx
  rw [MakeChecks.laidMetH_plain _ _ _ hpl] at hL
  refine (walk W base args ds p hL hS hval hA hz').mono fun e W' ⟨he, hb⟩ => ?_
  exact ⟨_, he, law_post hl hs hr hu hp hW hb⟩
end Go.Proofs.YthcleiegefhmdaaDoor
