/-
  merkle's leaves, nodes and roots; an archive's root.
  Chapter 19's example comes out true.
  The law of chapter 19.3: archives and bytes.
-/
import Derived.Test.YtkifimkcmfglmaaGreatDoorArcb13
import Derived.Test.YtkifimkcmfglmaaGreatDoorArcb03
import Derived.Test.YtkifimkcmfglmaaGreatDoorArcb11
import Derived.Test.YtkifimkcmfglmaaGreatDoorArcb12
import Derived.Test.YtkifimkcmfglmaaGreatDoorArcb15
import Derived.Test.YtkifimkcmfglmaaGreatDoorArcb14
set_option linter.all false
namespace Go.Proofs.YtkifimkcmfglmaaGreatDoor
open Go.RowKit Abs
theorem msum_at (x : Int) (v : Value) (xs : List ByteArray) (m : Mem) (hd : Rd m 1 v xs.length (xs.map .string)) (hlen : xs.length ≤ maxLen) (hsz : (joined xs).length ≤ 140737488355200) :
    Abs.Spec Tryz.prog 83 [.int .i64 x, v] m fun u M => u = .string (str (Sha.msum x (joined xs))) ∧ M = m :=
  Spec.of_below rfl fun ι w ys hy hr => by
    obtain ⟨a', b', rfl, ha, hb⟩ := vrels_two hy
    cases ha
    exact msum_any x b' xs w (Rd.strs hr hd hb) hlen hsz
theorem msum32 (l : List UInt8) : Sha.msum 32 l = Sha.sum l := by
  unfold Sha.msum
  rw [List.take_of_length_le]
  rw [Sha.sum_length]
  decide
theorem new_str2 (a b : ByteArray) : nBuildSlice Tryz.prog 24 2 [(0, .string a), (1, .string b)] = some (.cells false 1 [.string a, .string b]) := by kernel_rfl
theorem rd_new (m : Mem) (n : Nat) (cs : List Value) (k : Nat) (hk : cs.length = k * n) (hm : k ≤ maxLen) : Rd (m.push (.cells false n cs)) n (.slice (some ⟨m.size, 0, none⟩) k k) k cs :=
  ⟨_, _, rfl, hk, Nat.le_refl _, hm, (fun h => by cases h), fun p hp => ⟨_, (Option.some.inj hp).symm, fun _ => ⟨false, Mem.get_push_new _ _⟩⟩⟩
set_option maxRecDepth 100000 in
set_option maxHeartbeats 2000000 in
theorem leaf_at (s : List UInt8) (hs : s.length ≤ 1000000) (m : Mem) : Abs.Spec Tryz.prog 53 [.int .i64 32, .string (str s)] m fun u M => u = .string (str (leafV s)) ∧ M = m := by
  refine Abs.Spec.of_empty (by intro x hx; simp at hx; rcases hx with rfl | rfl <;> rfl) rfl ?_ m
  refine WM Tryz.func53 Tryz.results53 Tryz.ntmps53 fun _ => ?_
  have hj : joined [str [0], str s] = 0 :: s := by simp [joined, str]
  refine CW_seq (R0 ?_)
  refine CW_seq (R1 @new_str2 ?_)
  refine K0 (msum_at 32 _ [str [0], str s] _ (rd_new _ 1 _ 2 rfl (by decide)) (show 2 ≤ maxLen by decide) (by rw [hj]; simp only [List.length_cons]; omega)) ?_
  refine T0 ?_
  exact ⟨_, Thin.refl _, by rw [hj, msum32]; rfl⟩
end Go.Proofs.YtkifimkcmfglmaaGreatDoor
namespace Go.Proofs.YtkifimkcmfglmaaGreatDoor
open Go.RowKit Abs
noncomputable def leafG (ys : List Value) : Option Value := match ys with
  | [.int .i64 (.ofNat n), .string a] => bif Nat.beq n 32 then bif Nat.ble a.size 1000000 then some (.string (str (leafV a.data.toList))) else none else none
  | _ => none
theorem leafG_known (ys : List Value) (v : Value) (h : leafG ys = some v) : Known Tryz.prog 53 ys v := by
  unfold leafG at h
  split at h <;> first | (cases h; done) | skip
  rename_i n a
  cases h1 : Nat.beq n 32 <;> rw [h1] at h <;> first | (cases h; done) | skip
  cases h2 : Nat.ble a.size 1000000 <;> rw [h2] at h <;> first | (cases h; done) | skip
  cases h
  have h1 := Nat.eq_of_beq_eq_true h1
  have h2 := Nat.le_of_ble_eq_true h2
  subst h1
  exact fun m => leaf_at a.data.toList (by simpa using h2) m
def tab19 : List (FuncId × List Value × Value) := [
  (70, [.string (str in19)], .string (str out19)),
  (71, [.string (str in19)], .string (str rich19)),
  (58, [.string (str out19), .int .i64 (.ofNat 5)], .tuple #[.string (str in19), .int .i64 (.ofNat 7), .int .i64 (.ofNat 0)]),
  (49, [.string (str enc19), .string (str nonce19), .int .i64 (.ofNat 1), .string (str chunk19)], .tuple #[.string (str ciph19), .int .i64 (.ofNat 0)]),
  (49, [.string (str enc19), .string (str nonce19), .int .i64 (.ofNat 1), .string (str ciph19)], .tuple #[.string (str chunk19), .int .i64 (.ofNat 0)]),
  (23, [.string (str [115]), .string (str Ex.salt)], Ex.keys1),
  (23, [.string (str [115]), .string (str [])], Ex.keys2)]
theorem tab19_known : ∀ e ∈ tab19, Known Tryz.prog e.1 e.2.1 e.2.2 := by
  intro e he
  simp only [tab19, List.mem_cons, List.not_mem_nil, or_false] at he
  rcases he with rfl | rfl | rfl | rfl | rfl | rfl | rfl
  · exact s19Simple
  · exact s19Rich
  · exact s19Infl
  · exact s19Xord
  · exact s19Xore
  · exact Ex.keys1_known
  · exact Ex.keys2_known
noncomputable def T19 : Caller := alsoT (tabT tab19) (tagT (flatT 53 leafG solT))
theorem T19_good : Abs.Good Tryz.prog T19 := alsoT_good (tabT_good tab19 tab19_known) (tagT_good (flatT_good solT_good leafG_known))
set_option maxRecDepth 100000 in
theorem awake19_spec (m : Mem) : Abs.Spec Tryz.prog 5 [] m fun u m' => u = .bool true ∧ m' = m :=
  known_of_run (xs := []) (v := .bool true) hmix T19_good (L := 100000) (n := 60) (fun x hx => by cases hx) rfl (by kernel_rfl) m
end Go.Proofs.YtkifimkcmfglmaaGreatDoor
namespace Go.Proofs.YtkifimkcmfglmaaGreatDoor
open Go.RowKit Abs
set_option maxRecDepth 100000 in
set_option maxHeartbeats 16000000 in
theorem light19_spec (h : Header) (xs : List ByteArray) (hl : xs.length ≤ 140737488355327) (M : Mem) (V : Value) (hr : BlR M V xs) :
    Abs.Spec Tryz.prog 4 [.string ⟨#[]⟩, .agg (archC h V)] M fun u M' => (∃ b : Bool, u = .bool b ∧ (b = true → xs.length ≤ 40)) ∧ More M M' := by
  obtain ⟨p, c, rfl⟩ := hr.len
  have bx := bx_arch
  generalize aStride Tryz.prog 26 = s3 at bx
  have k7 : ∀ (s : Nat) (h : Header) V, cellIn 7 (some (.cells false s (archC h V).toList)) = some V := fun _ _ _ => rfl
  have k1 : ∀ (s : Nat) (h : Header) V, cellIn 1 (some (.cells false s (archC h V).toList)) = some (.string h.salt) := fun _ _ _ => rfl
  have k5 : ∀ (s : Nat) (h : Header) V, cellIn 5 (some (.cells false s (archC h V).toList)) = some (.string h.root) := fun _ _ _ => rfl
  have k6 : ∀ (s : Nat) (h : Header) V, cellIn 6 (some (.cells false s (archC h V).toList)) = some (.string h.tag) := fun _ _ _ => rfl
  obtain ⟨M1, hM1⟩ : ∃ M1, M1 = M.push (.cells false s3 (archC h (.slice p xs.length c)).toList) := ⟨_, rfl⟩
  have mo : More M M1 := by rw [hM1]; exact More.push _ _
  have g1 : M1.get M.size = some (.cells false s3 (archC h (.slice p xs.length c)).toList) := by rw [hM1, Mem.get_push_new]
  obtain ⟨b1, hb1⟩ : ∃ b, b = M.size := ⟨_, rfl⟩
  have h1 := hr.same mo.get
  have q0 : decide (((bsize (⟨#[]⟩ : ByteArray) : Nat) : Int) > 500) = false := rfl
  refine Abs.Spec.walkM Tryz.func4 (by rfl) _ Tryz.results4 _ Tryz.ntmps4 (by simp) ?_
  intro _ _ _
  refine CW_seq (CW_region ?_)
  simp only [zZ, reduceIte, Nat.reduceLT, Int.reduceToNat, Int.reduceLE, Int.reduceEq, Int.reduceLT, Nat.reduceEqDiff, Nat.reduceAdd, zDk, bx]
  rw [← hM1]
  rw [← hb1] at g1 ⊢
  cases q1 : decide (((xs.length : Nat) : Int) > 40) with
  | true =>
    refine CW_seq (CW_seq (CW_region ?_))
    simp only [zZ, reduceIte, Nat.reduceLT, Int.reduceToNat, Int.reduceLE, Int.reduceEq, Int.reduceLT, Nat.reduceEqDiff, Nat.reduceAdd, zDk, q0, g1, k7, q1]
    refine CW_cond true (by rfl) (fun _ => CW_seq (CW_region ?_)) (fun h => by cases h)
    simp only [zZ, reduceIte, Nat.reduceLT, Int.reduceToNat, Int.reduceLE, Int.reduceEq, Int.reduceLT, Nat.reduceEqDiff, Nat.reduceAdd, zDk]
    refine CW_ret ?_
    simp only [zZ, reduceIte, Nat.reduceLT, Int.reduceToNat, Int.reduceLE, Int.reduceEq, Int.reduceLT, Nat.reduceEqDiff, Nat.reduceAdd, zDk, mEnd, sAnswer, sAnswer.sRes]
    exact ⟨_, Thin.refl _, ⟨false, rfl, fun h => by cases h⟩, mo⟩
  | false =>
  have hl40 : xs.length ≤ 40 := by have := of_decide_eq_false q1; omega
  cases q2 : decide (((bsize h.salt : Nat) : Int) > 500) with
  | true =>
    refine CW_seq (CW_seq (CW_region ?_))
    simp only [zZ, reduceIte, Nat.reduceLT, Int.reduceToNat, Int.reduceLE, Int.reduceEq, Int.reduceLT, Nat.reduceEqDiff, Nat.reduceAdd, zDk, q0, g1, k7, q1, k1, q2]
    refine CW_cond true (by rfl) (fun _ => CW_seq (CW_region ?_)) (fun h => by cases h)
    simp only [zZ, reduceIte, Nat.reduceLT, Int.reduceToNat, Int.reduceLE, Int.reduceEq, Int.reduceLT, Nat.reduceEqDiff, Nat.reduceAdd, zDk]
    refine CW_ret ?_
    simp only [zZ, reduceIte, Nat.reduceLT, Int.reduceToNat, Int.reduceLE, Int.reduceEq, Int.reduceLT, Nat.reduceEqDiff, Nat.reduceAdd, zDk, mEnd, sAnswer, sAnswer.sRes]
    exact ⟨_, Thin.refl _, ⟨false, rfl, fun h => by cases h⟩, mo⟩
  | false =>
  cases q3 : decide (((bsize h.root : Nat) : Int) > 500) with
  | true =>
    refine CW_seq (CW_seq (CW_region ?_))
    simp only [zZ, reduceIte, Nat.reduceLT, Int.reduceToNat, Int.reduceLE, Int.reduceEq, Int.reduceLT, Nat.reduceEqDiff, Nat.reduceAdd, zDk, q0, g1, k7, q1, k1, q2, k5, q3]
    refine CW_cond true (by rfl) (fun _ => CW_seq (CW_region ?_)) (fun h => by cases h)
    simp only [zZ, reduceIte, Nat.reduceLT, Int.reduceToNat, Int.reduceLE, Int.reduceEq, Int.reduceLT, Nat.reduceEqDiff, Nat.reduceAdd, zDk]
    refine CW_ret ?_
    simp only [zZ, reduceIte, Nat.reduceLT, Int.reduceToNat, Int.reduceLE, Int.reduceEq, Int.reduceLT, Nat.reduceEqDiff, Nat.reduceAdd, zDk, mEnd, sAnswer, sAnswer.sRes]
    exact ⟨_, Thin.refl _, ⟨false, rfl, fun h => by cases h⟩, mo⟩
  | false =>
  cases q4 : decide (((bsize h.tag : Nat) : Int) > 500) with
  | true =>
    refine CW_seq (CW_seq (CW_region ?_))
    simp only [zZ, reduceIte, Nat.reduceLT, Int.reduceToNat, Int.reduceLE, Int.reduceEq, Int.reduceLT, Nat.reduceEqDiff, Nat.reduceAdd, zDk, q0, g1, k7, q1, k1, q2, k5, q3, k6, q4]
    refine CW_cond true (by rfl) (fun _ => CW_seq (CW_region ?_)) (fun h => by cases h)
    simp only [zZ, reduceIte, Nat.reduceLT, Int.reduceToNat, Int.reduceLE, Int.reduceEq, Int.reduceLT, Nat.reduceEqDiff, Nat.reduceAdd, zDk]
    refine CW_ret ?_
    simp only [zZ, reduceIte, Nat.reduceLT, Int.reduceToNat, Int.reduceLE, Int.reduceEq, Int.reduceLT, Nat.reduceEqDiff, Nat.reduceAdd, zDk, mEnd, sAnswer, sAnswer.sRes]
    exact ⟨_, Thin.refl _, ⟨false, rfl, fun h => by cases h⟩, mo⟩
  | false =>
  refine CW_seq (CW_seq (CW_region ?_))
  simp only [zZ, reduceIte, Nat.reduceLT, Int.reduceToNat, Int.reduceLE, Int.reduceEq, Int.reduceLT, Nat.reduceEqDiff, Nat.reduceAdd, zDk, q0, g1, k7, q1, k1, q2, k5, q3, k6, q4]
  refine CW_cond false (by rfl) (fun h => by cases h) (fun _ => CW_skip ?_)
  simp only [zZ, reduceIte, Nat.reduceLT, Int.reduceToNat, Int.reduceLE, Int.reduceEq, Int.reduceLT, Nat.reduceEqDiff, Nat.reduceAdd, zDk]
  refine MW_mid (fun f M' => f = [] ∧ M' = M1) ?_ ?_
  · refine CW_seq (CW_region ?_)
    simp only [zZ, reduceIte, Nat.reduceLT, Int.reduceToNat, Int.reduceLE, Int.reduceEq, Int.reduceLT, Nat.reduceEqDiff, Nat.reduceAdd, zDk]
    refine CW_block (MW_loop (fun j f M' => ∃ i : Nat, j = xs.length - i ∧ f = [(3, .pointer (some ⟨b1, 0, none⟩)), (5, .int .i64 (i : Nat))] ∧ i ≤ xs.length ∧ M' = M1) xs.length ?_ ?_)
    · refine ⟨[3, 5], ?_⟩
      simp only [zZ, reduceIte, Nat.reduceLT, Int.reduceToNat, Int.reduceLE, Int.reduceEq, Int.reduceLT, Nat.reduceEqDiff, Nat.reduceAdd, keepF]
      exact ⟨M1, Thin.refl _, 0, rfl, rfl, by omega, rfl⟩
    · rintro j f M' ⟨i, rfl, rfl, hi, rfl⟩
      refine CW_seq (CW_seq (CW_region ?_))
      simp only [zZ, reduceIte, Nat.reduceLT, Int.reduceToNat, Int.reduceLE, Int.reduceEq, Int.reduceLT, Nat.reduceEqDiff, Nat.reduceAdd, zDk, g1, k7]
      refine CW_cond (decide ((i : Int) < (xs.length : Int))) (by rfl) (fun hq => CW_skip ?_) (fun hq => CW_exit ?_)
      · have hq' := of_decide_eq_true hq
        obtain ⟨x, hx⟩ : ∃ x, xs[i]? = some x := ⟨_, List.getElem?_eq_getElem (by omega)⟩
        obtain ⟨g, ro, rfl, gx, c2⟩ := h1.cell hx
        have z0 : (0 : Int) ≤ (i : Int) := by omega
        have w1 : IntKind.i64.wrap ((i : Int) + 1) = ((i + 1 : Nat) : Int) := by rw [wri (by omega) (by omega)]; omega
        simp only [zZ, reduceIte, Nat.reduceLT, Int.reduceToNat, Int.reduceLE, Int.reduceEq, Int.reduceLT, Nat.reduceEqDiff, Nat.reduceAdd, zDk]
        refine CW_seq (CW_block (CW_seq (CW_region ?_)))
        simp only [zZ, reduceIte, Nat.reduceLT, Int.reduceToNat, Int.reduceLE, Int.reduceEq, Int.reduceLT, Nat.reduceEqDiff, Nat.reduceAdd, zDk, z0, hq', and_self, g1, k7, gx, Int.toNat_natCast, c2]
        refine CW_cond (decide (((bsize x : Nat) : Int) > 500)) (by rfl) (fun hb => CW_seq (CW_region ?_)) (fun hb => CW_skip ?_)
        · simp only [zZ, reduceIte, Nat.reduceLT, Int.reduceToNat, Int.reduceLE, Int.reduceEq, Int.reduceLT, Nat.reduceEqDiff, Nat.reduceAdd, zDk]
          refine CW_ret ?_
          simp only [zZ, reduceIte, Nat.reduceLT, Int.reduceToNat, Int.reduceLE, Int.reduceEq, Int.reduceLT, Nat.reduceEqDiff, Nat.reduceAdd, zDk, mEnd, sAnswer, sAnswer.sRes]
          exact ⟨_, Thin.refl _, ⟨false, rfl, fun h => by cases h⟩, mo⟩
        · simp only [zZ, reduceIte, Nat.reduceLT, Int.reduceToNat, Int.reduceLE, Int.reduceEq, Int.reduceLT, Nat.reduceEqDiff, Nat.reduceAdd, zDk]
          refine CW_region ?_
          simp only [zZ, reduceIte, Nat.reduceLT, Int.reduceToNat, Int.reduceLE, Int.reduceEq, Int.reduceLT, Nat.reduceEqDiff, Nat.reduceAdd, zDk, w1]
          refine ⟨[3, 5], ?_⟩
          simp only [zZ, reduceIte, Nat.reduceLT, Int.reduceToNat, Int.reduceLE, Int.reduceEq, Int.reduceLT, Nat.reduceEqDiff, Nat.reduceAdd, keepF]
          exact ⟨_, Thin.refl _, xs.length - (i + 1), ⟨i + 1, rfl, rfl, by omega, rfl⟩, by omega⟩
      · simp only [zZ, reduceIte, Nat.reduceLT, Int.reduceToNat, Int.reduceLE, Int.reduceEq, Int.reduceLT, Nat.reduceEqDiff, Nat.reduceAdd, zDk]
        refine ⟨[], ?_⟩
        simp only [zZ, reduceIte, Nat.reduceLT, Int.reduceToNat, Int.reduceLE, Int.reduceEq, Int.reduceLT, Nat.reduceEqDiff, Nat.reduceAdd, keepF]
        exact ⟨_, Thin.refl _, rfl⟩
  · rintro f M2 ⟨rfl, rfl⟩
    refine CW_seq (CW_region ?_)
    simp only [zZ, reduceIte, Nat.reduceLT, Int.reduceToNat, Int.reduceLE, Int.reduceEq, Int.reduceLT, Nat.reduceEqDiff, Nat.reduceAdd, zDk]
    refine CW_ret ?_
    simp only [zZ, reduceIte, Nat.reduceLT, Int.reduceToNat, Int.reduceLE, Int.reduceEq, Int.reduceLT, Nat.reduceEqDiff, Nat.reduceAdd, zDk, mEnd, sAnswer, sAnswer.sRes]
    exact ⟨_, Thin.refl _, ⟨true, rfl, fun _ => hl40⟩, mo⟩
theorem putA_len (h : Header) (xs : List ByteArray) (hl : xs.length ≤ 1000) : (putA h xs).1.length ≤ 1000000 := by
  unfold putA
  split
  · rename_i e
    split
    · rename_i h2
      have := headText_len (h.check_zero.1 e)
      have := flatB_len xs (by unfold shapeB at h2; rw [Bool.and_eq_true] at h2; exact h2.2)
      rw [List.length_append]; omega
    · simp
  · simp
set_option maxRecDepth 100000 in
set_option maxHeartbeats 16000000 in
theorem archive_bytes (h : Header) (xs : List ByteArray) (p : Option Addr) (c : Nat) (s : ByteArray) (M : Mem) (hr : BlR M (.slice p xs.length c) xs) (hl : xs.length ≤ 140737488355327) :
    Abs.Spec Tryz.prog 3 [.agg (archC h (.slice p xs.length c)), .string s] M fun u _ => u = .bool true := by
  obtain ⟨S, rfl⟩ : ∃ S, s = str S := ⟨s.data.toList, rfl⟩
  have bx := bx_arch
  have halA : nAlloc Tryz.prog 26 = some (.cells false (aStride Tryz.prog 26) (archC noHead (.slice none 0 0)).toList) := al_Arc
  generalize aStride Tryz.prog 26 = s3 at bx halA
  have row8 : ∀ (s : Nat) (h : Header) V, rowIn 8 0 (some (.cells false s (archC h V).toList)) = some (.agg (archC h V)) := fun _ _ _ => rfl
  have agg8 : ∀ h V, (Value.agg (archC h V)).cells.toList = (archC h V).toList := fun _ _ => rfl
  have put8 : ∀ (M0 : Mem) (b : Nat) (h h' : Header) (V : Value) (a : Option Addr) (n c : Nat), putIn 8 M0 b 0 (archC h' (.slice a n c)).toList (some (.cells false s3 (archC h V).toList)) = some (M0.set b (some (.cells false s3 (archC h' (.slice a n c)).toList))) := fun _ _ _ _ _ _ _ _ => rfl
  have hbs : ∀ l : List UInt8, bsize (str l) = l.length := fun _ => rfl
  -- a new variable laid
  have var : ∀ (M' : Mem) (h' : Header) (a : Option Addr) (n c : Nat), ∃ M'', M'' = (M'.push (.cells false s3 (archC noHead (.slice none 0 0)).toList)).set M'.size (some (.cells false s3 (archC h' (.slice a n c)).toList)) ∧ More M' M'' ∧ M''.get M'.size = some (.cells false s3 (archC h' (.slice a n c)).toList) := fun M' h' a n c =>
    ⟨_, rfl, ⟨fun b x hb => by have := Mem.get_lt hb; rw [Mem.get_set_ne (by omega), Mem.get_push_old this]; exact hb, by rw [Mem.size_set, Mem.size_push]; omega⟩, Mem.get_set_same (Mem.get_push_new _ _) _⟩
  obtain ⟨M1, hM1⟩ : ∃ M1, M1 = M.push (.cells false s3 (archC h (.slice p xs.length c)).toList) := ⟨_, rfl⟩
  have mo1 : More M M1 := by rw [hM1]; exact More.push _ _
  obtain ⟨b1, hb1⟩ : ∃ b, b = M.size := ⟨_, rfl⟩
  have g1 : M1.get b1 = some (.cells false s3 (archC h (.slice p xs.length c)).toList) := by rw [hM1, hb1, Mem.get_push_new]
  have hr1 := hr.same mo1.get
  refine Abs.Spec.walkM Tryz.func3 (by rfl) _ Tryz.results3 _ Tryz.ntmps3 (by simp) ?_
  intro _ _ _
  refine CW_seq (CW_region ?_)
  simp only [zZ, reduceIte, Nat.reduceLT, Int.reduceToNat, Int.reduceLE, Int.reduceEq, Int.reduceLT, Nat.reduceEqDiff, Nat.reduceAdd, zDk, bx]
  rw [← hM1, ← hb1]
  refine CW_seq (CW_seq (CW_region ?_))
  simp only [zZ, reduceIte, Nat.reduceLT, Int.reduceToNat, Int.reduceLE, Int.reduceEq, Int.reduceLT, Nat.reduceEqDiff, Nat.reduceAdd, zDk, g1, row8]
  refine ⟨by kernel_rfl, _, light19_spec h xs hl M1 _ hr1, ?_⟩
  rintro _ M2 ⟨⟨b, rfl, hb⟩, mo2⟩
  have g2 := mo2.get _ _ g1
  have hr2 := hr1.same mo2.get
  cases b with
  | false =>
    simp only [zZ, reduceIte, Nat.reduceLT, Int.reduceToNat, Int.reduceLE, Int.reduceEq, Int.reduceLT, Nat.reduceEqDiff, Nat.reduceAdd, zDk]
    refine CW_cond true (by rfl) (fun _ => CW_seq (CW_region ?_)) (fun h => by cases h)
    simp only [zZ, reduceIte, Nat.reduceLT, Int.reduceToNat, Int.reduceLE, Int.reduceEq, Int.reduceLT, Nat.reduceEqDiff, Nat.reduceAdd, zDk]
    refine ⟨by kernel_rfl, _, awake19_spec M2, ?_⟩
    rintro _ M9 ⟨rfl, e9⟩; replace e9 := e9.symm; subst e9
    simp only [zZ, reduceIte, Nat.reduceLT, Int.reduceToNat, Int.reduceLE, Int.reduceEq, Int.reduceLT, Nat.reduceEqDiff, Nat.reduceAdd, zDk]
    refine CW_ret ?_
    simp only [zZ, reduceIte, Nat.reduceLT, Int.reduceToNat, Int.reduceLE, Int.reduceEq, Int.reduceLT, Nat.reduceEqDiff, Nat.reduceAdd, zDk, mEnd, sAnswer, sAnswer.sRes]
    exact ⟨_, Thin.refl _⟩
  | true =>
  have hx40 := hb rfl
  cases hq : decide (((S.length : Nat) : Int) > 10000) with
  | true =>
    simp only [zZ, reduceIte, Nat.reduceLT, Int.reduceToNat, Int.reduceLE, Int.reduceEq, Int.reduceLT, Nat.reduceEqDiff, Nat.reduceAdd, zDk, hbs, hq]
    refine CW_cond true (by rfl) (fun _ => CW_seq (CW_region ?_)) (fun h => by cases h)
    simp only [zZ, reduceIte, Nat.reduceLT, Int.reduceToNat, Int.reduceLE, Int.reduceEq, Int.reduceLT, Nat.reduceEqDiff, Nat.reduceAdd, zDk]
    refine ⟨by kernel_rfl, _, awake19_spec M2, ?_⟩
    rintro _ M9 ⟨rfl, e9⟩; replace e9 := e9.symm; subst e9
    simp only [zZ, reduceIte, Nat.reduceLT, Int.reduceToNat, Int.reduceLE, Int.reduceEq, Int.reduceLT, Nat.reduceEqDiff, Nat.reduceAdd, zDk]
    refine CW_ret ?_
    simp only [zZ, reduceIte, Nat.reduceLT, Int.reduceToNat, Int.reduceLE, Int.reduceEq, Int.reduceLT, Nat.reduceEqDiff, Nat.reduceAdd, zDk, mEnd, sAnswer, sAnswer.sRes]
    exact ⟨_, Thin.refl _⟩
  | false =>
  have hS : S.length ≤ 10000 := by have := of_decide_eq_false hq; omega
  simp only [zZ, reduceIte, Nat.reduceLT, Int.reduceToNat, Int.reduceLE, Int.reduceEq, Int.reduceLT, Nat.reduceEqDiff, Nat.reduceAdd, zDk, hbs, hq]
  refine CW_cond false (by rfl) (fun h => by cases h) (fun _ => CW_skip ?_)
  simp only [zZ, reduceIte, Nat.reduceLT, Int.reduceToNat, Int.reduceLE, Int.reduceEq, Int.reduceLT, Nat.reduceEqDiff, Nat.reduceAdd, zDk]
  refine CW_seq (CW_region ?_)
  simp only [zZ, reduceIte, Nat.reduceLT, Int.reduceToNat, Int.reduceLE, Int.reduceEq, Int.reduceLT, Nat.reduceEqDiff, Nat.reduceAdd, zDk, g2, row8]
  refine ⟨by kernel_rfl, _, aput_spec h xs (by omega) M2 _ hr2, ?_⟩
  rintro _ M3 ⟨rfl, mo3⟩
  have g3 := mo3.get _ _ g2
  have hr3 := hr2.same mo3.get
  simp only [zZ, reduceIte, Nat.reduceLT, Int.reduceToNat, Int.reduceLE, Int.reduceEq, Int.reduceLT, Nat.reduceEqDiff, Nat.reduceAdd, zDk]
  refine CW_seq (CW_region ?_)
  simp only [zZ, reduceIte, Nat.reduceLT, Int.reduceToNat, Int.reduceLE, Int.reduceEq, Int.reduceLT, Nat.reduceEqDiff, Nat.reduceAdd, zDk, g3, row8]
  refine ⟨by kernel_rfl, _, rput_spec h xs (by omega) M3 _ hr3, ?_⟩
  rintro _ M4 ⟨rfl, mo4⟩
  have g4 := mo4.get _ _ g3
  have hr4 := hr3.same mo4.get
  have hpl := putA_len h xs (by omega)
  have htp := take_put h xs
  obtain ⟨P, hP⟩ : ∃ P, P = putA h xs := ⟨_, rfl⟩
  rw [← hP] at hpl htp ⊢
  simp only [zZ, reduceIte, Nat.reduceLT, Int.reduceToNat, Int.reduceLE, Int.reduceEq, Int.reduceLT, Nat.reduceEqDiff, Nat.reduceAdd, zDk]
  refine CW_seq (CW_region ?_)
  simp only [zZ, reduceIte, Nat.reduceLT, Int.reduceToNat, Int.reduceLE, Int.reduceEq, Int.reduceLT, Nat.reduceEqDiff, Nat.reduceAdd, zDk]
  refine ⟨by kernel_rfl, _, atake_spec S (by omega) M4, ?_⟩
  rintro _ M5 ⟨V5, rfl, hr5, mo5⟩
  have hpt := put_take S
  obtain ⟨T, hT⟩ : ∃ T, T = takeA S := ⟨_, rfl⟩
  rw [← hT] at hr5 hpt ⊢
  obtain ⟨p5, c5, rfl⟩ := hr5.len
  obtain ⟨M6, hM6, mo6, g6⟩ := var M5 T.1.1 p5 T.1.2.length c5
  obtain ⟨b9, hb9⟩ : ∃ b, b = M5.size := ⟨_, rfl⟩
  rw [← hb9] at g6
  simp only [zZ, reduceIte, Nat.reduceLT, Int.reduceToNat, Int.reduceLE, Int.reduceEq, Int.reduceLT, Nat.reduceEqDiff, Nat.reduceAdd, zDk, halA, Mem.get_push_new, agg8, put8]
  rw [← hM6, ← hb9]
  refine CW_seq (CW_region ?_)
  simp only [zZ, reduceIte, Nat.reduceLT, Int.reduceToNat, Int.reduceLE, Int.reduceEq, Int.reduceLT, Nat.reduceEqDiff, Nat.reduceAdd, zDk]
  refine ⟨by kernel_rfl, _, rtake_spec S (by omega) M6, ?_⟩
  rintro _ M7 ⟨V7, rfl, hr7, mo7⟩
  rw [← hT] at hr7 ⊢
  obtain ⟨p7, c7, rfl⟩ := hr7.len
  obtain ⟨M8, hM8, mo8, g8⟩ := var M7 T.1.1 p7 T.1.2.length c7
  obtain ⟨b11, hb11⟩ : ∃ b, b = M7.size := ⟨_, rfl⟩
  rw [← hb11] at g8
  simp only [zZ, reduceIte, Nat.reduceLT, Int.reduceToNat, Int.reduceLE, Int.reduceEq, Int.reduceLT, Nat.reduceEqDiff, Nat.reduceAdd, zDk, halA, Mem.get_push_new, agg8, put8]
  rw [← hM8, ← hb11]
  have mo48 : More M4 M8 := ((mo5.trans mo6).trans mo7).trans mo8
  have g68 := (mo7.trans mo8).get _ _ g6
  have g48 := mo48.get _ _ g4
  have hr58 := hr5.same ((mo6.trans mo7).trans mo8).get
  have hr78 := hr7.same mo8.get
  have hr48 := hr4.same mo48.get
  have hTl : T.1.2.length ≤ 1000 := by
    rw [hT]
    unfold takeA
    split
    · simp
    · split
      · simp
      · rename_i e1 e2
        rw [blocksL_len]
        have : ((S.length : Int) - 98) = (hdrT (str (S.take 98))).1.n * 224 := Decidable.byContradiction fun h => e2 (.inr h)
        omega
  have rs := rsame_at M8 T.1.1 T.1.1 _ _ T.1.2 T.1.2 hr58 hr78 (by omega)
  rw [sameArch_self] at rs
  have eqs : ∀ l : List UInt8, (!beqB (str l) (str l)) = false := fun l => by rw [beqB_dec, decide_eq_true rfl]; rfl
  have eqi : ∀ n : Int, (n != n) = false := fun n => by simp
  refine CW_seq (CW_seq (CW_region ?_))
  simp only [zZ, reduceIte, Nat.reduceLT, Int.reduceToNat, Int.reduceLE, Int.reduceEq, Int.reduceLT, Nat.reduceEqDiff, Nat.reduceAdd, zDk, eqs, eqi, g68, g8, row8]
  refine ⟨by kernel_rfl, _, rs, ?_⟩
  rintro _ M9 ⟨rfl, e9⟩; replace e9 := e9.symm; subst e9
  simp only [zZ, reduceIte, Nat.reduceLT, Int.reduceToNat, Int.reduceLE, Int.reduceEq, Int.reduceLT, Nat.reduceEqDiff, Nat.reduceAdd, zDk, eqi]
  refine CW_cond false (by rfl) (fun h => by cases h) (fun _ => CW_skip ?_)
  simp only [zZ, reduceIte, Nat.reduceLT, Int.reduceToNat, Int.reduceLE, Int.reduceEq, Int.reduceLT, Nat.reduceEqDiff, Nat.reduceAdd, zDk]
  refine MW_mid (fun f M' => f = [(1, .string (str S)), (9, .pointer (some ⟨b9, 0, none⟩)), (10, .int .i64 T.2)] ∧ More M8 M') ?_ ?_
  · by_cases he : P.2 = 0
    · have q9 : (P.2 == 0) = true := by rw [he]; rfl
      have htp := htp he
      refine CW_seq (CW_region ?_)
      simp only [zZ, reduceIte, Nat.reduceLT, Int.reduceToNat, Int.reduceLE, Int.reduceEq, Int.reduceLT, Nat.reduceEqDiff, Nat.reduceAdd, zDk, q9]
      refine CW_cond true (by rfl) (fun _ => CW_seq (CW_region ?_)) (fun h => by cases h)
      simp only [zZ, reduceIte, Nat.reduceLT, Int.reduceToNat, Int.reduceLE, Int.reduceEq, Int.reduceLT, Nat.reduceEqDiff, Nat.reduceAdd, zDk]
      refine ⟨by kernel_rfl, _, atake_spec P.1 hpl M8, ?_⟩
      rintro _ M9 ⟨V9, rfl, hr9, mo9⟩
      rw [htp] at hr9 ⊢
      obtain ⟨p9, c9, rfl⟩ := hr9.len
      obtain ⟨M10, hM10, mo10, g10⟩ := var M9 h p9 xs.length c9
      obtain ⟨b13, hb13⟩ : ∃ b, b = M9.size := ⟨_, rfl⟩
      rw [← hb13] at g10
      simp only [zZ, reduceIte, Nat.reduceLT, Int.reduceToNat, Int.reduceLE, Int.reduceEq, Int.reduceLT, Nat.reduceEqDiff, Nat.reduceAdd, zDk, halA, Mem.get_push_new, agg8, put8]
      rw [← hM10, ← hb13]
      have g410 := (mo9.trans mo10).get _ _ g48
      have rs2 := rsame_at M10 h h _ _ xs xs (hr9.same mo10.get) (hr48.same (mo9.trans mo10).get) (by omega)
      rw [sameArch_self] at rs2
      have e00 : ((0 : Int) != 0) = false := rfl
      refine CW_seq (CW_region ?_)
      simp only [zZ, reduceIte, Nat.reduceLT, Int.reduceToNat, Int.reduceLE, Int.reduceEq, Int.reduceLT, Nat.reduceEqDiff, Nat.reduceAdd, zDk, e00, g10, g410, row8]
      refine ⟨by kernel_rfl, _, rs2, ?_⟩
      rintro _ M9 ⟨rfl, e9⟩; replace e9 := e9.symm; subst e9
      simp only [zZ, reduceIte, Nat.reduceLT, Int.reduceToNat, Int.reduceLE, Int.reduceEq, Int.reduceLT, Nat.reduceEqDiff, Nat.reduceAdd, zDk]
      refine CW_cond false (by rfl) (fun h => by cases h) (fun _ => CW_skip ?_)
      refine ⟨[1, 9, 10], ?_⟩
      simp only [zZ, reduceIte, Nat.reduceLT, Int.reduceToNat, Int.reduceLE, Int.reduceEq, Int.reduceLT, Nat.reduceEqDiff, Nat.reduceAdd, keepF]
      exact ⟨_, Thin.refl _, mo9.trans mo10⟩
    · have q9 : (P.2 == 0) = false := by simp; exact he
      refine CW_seq (CW_region ?_)
      simp only [zZ, reduceIte, Nat.reduceLT, Int.reduceToNat, Int.reduceLE, Int.reduceEq, Int.reduceLT, Nat.reduceEqDiff, Nat.reduceAdd, zDk, q9]
      refine CW_cond false (by rfl) (fun h => by cases h) (fun _ => CW_skip ?_)
      refine ⟨[1, 9, 10], ?_⟩
      simp only [zZ, reduceIte, Nat.reduceLT, Int.reduceToNat, Int.reduceLE, Int.reduceEq, Int.reduceLT, Nat.reduceEqDiff, Nat.reduceAdd, keepF]
      exact ⟨_, Thin.refl _, More.refl _⟩
  · rintro f M11 ⟨rfl, mo11⟩
    have g611 := mo11.get _ _ g68
    have hr511 := hr58.same mo11.get
    by_cases he : T.2 = 0
    · have q9 : (T.2 == 0) = true := by rw [he]; rfl
      have hpt := hpt he
      refine CW_seq (CW_seq (CW_region ?_))
      simp only [zZ, reduceIte, Nat.reduceLT, Int.reduceToNat, Int.reduceLE, Int.reduceEq, Int.reduceLT, Nat.reduceEqDiff, Nat.reduceAdd, zDk, q9]
      refine CW_cond true (by rfl) (fun _ => CW_seq (CW_region ?_)) (fun h => by cases h)
      simp only [zZ, reduceIte, Nat.reduceLT, Int.reduceToNat, Int.reduceLE, Int.reduceEq, Int.reduceLT, Nat.reduceEqDiff, Nat.reduceAdd, zDk, g611, row8]
      refine ⟨by kernel_rfl, _, aput_spec T.1.1 T.1.2 hTl M11 _ hr511, ?_⟩
      rintro _ M12 ⟨rfl, mo12⟩
      rw [hpt]
      have e1 : beqB (str S) (str S) = true := by rw [beqB_dec, decide_eq_true rfl]
      have e2 : ((0 : Int) == 0) = true := rfl
      simp only [zZ, reduceIte, Nat.reduceLT, Int.reduceToNat, Int.reduceLE, Int.reduceEq, Int.reduceLT, Nat.reduceEqDiff, Nat.reduceAdd, zDk]
      refine CW_seq (CW_region ?_)
      simp only [zZ, reduceIte, Nat.reduceLT, Int.reduceToNat, Int.reduceLE, Int.reduceEq, Int.reduceLT, Nat.reduceEqDiff, Nat.reduceAdd, zDk, e1, e2]
      refine ⟨by kernel_rfl, _, awake19_spec M12, ?_⟩
      rintro _ M9 ⟨rfl, e9⟩; replace e9 := e9.symm; subst e9
      simp only [zZ, reduceIte, Nat.reduceLT, Int.reduceToNat, Int.reduceLE, Int.reduceEq, Int.reduceLT, Nat.reduceEqDiff, Nat.reduceAdd, zDk]
      refine CW_ret ?_
      simp only [zZ, reduceIte, Nat.reduceLT, Int.reduceToNat, Int.reduceLE, Int.reduceEq, Int.reduceLT, Nat.reduceEqDiff, Nat.reduceAdd, zDk, mEnd, sAnswer, sAnswer.sRes]
      exact ⟨_, Thin.refl _⟩
    · have q9 : (T.2 == 0) = false := by simp; exact he
      refine CW_seq (CW_seq (CW_region ?_))
      simp only [zZ, reduceIte, Nat.reduceLT, Int.reduceToNat, Int.reduceLE, Int.reduceEq, Int.reduceLT, Nat.reduceEqDiff, Nat.reduceAdd, zDk, q9]
      refine CW_cond false (by rfl) (fun h => by cases h) (fun _ => CW_skip ?_)
      simp only [zZ, reduceIte, Nat.reduceLT, Int.reduceToNat, Int.reduceLE, Int.reduceEq, Int.reduceLT, Nat.reduceEqDiff, Nat.reduceAdd, zDk]
      refine CW_seq (CW_region ?_)
      simp only [zZ, reduceIte, Nat.reduceLT, Int.reduceToNat, Int.reduceLE, Int.reduceEq, Int.reduceLT, Nat.reduceEqDiff, Nat.reduceAdd, zDk]
      refine ⟨by kernel_rfl, _, awake19_spec M11, ?_⟩
      rintro _ M9 ⟨rfl, e9⟩; replace e9 := e9.symm; subst e9
      simp only [zZ, reduceIte, Nat.reduceLT, Int.reduceToNat, Int.reduceLE, Int.reduceEq, Int.reduceLT, Nat.reduceEqDiff, Nat.reduceAdd, zDk]
      refine CW_ret ?_
      simp only [zZ, reduceIte, Nat.reduceLT, Int.reduceToNat, Int.reduceLE, Int.reduceEq, Int.reduceLT, Nat.reduceEqDiff, Nat.reduceAdd, zDk, mEnd, sAnswer, sAnswer.sRes]
      exact ⟨_, Thin.refl _⟩
end Go.Proofs.YtkifimkcmfglmaaGreatDoor
