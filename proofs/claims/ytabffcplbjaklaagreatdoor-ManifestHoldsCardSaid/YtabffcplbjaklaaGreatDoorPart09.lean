/-
  The walk of the library's symMerge (of headers).
  The walk of the library's stable sort (of headers, by their IDs).
  The walks of header.Check, and of the reference's May, in the abstract memory.
  The walks of the library's Clone (of headers), and of manifest.sorted.
  A new block that turns.
  The walk of manifest.sorted.
  The walk of the law's few.
  The walk of manifest.sorted: the whole.
  The walk of script.Hex.
-/
import Derived.Test.YtabffcplbjaklaaGreatDoorPart08
set_option linter.unusedSimpArgs false
set_option linter.unusedVariables false
set_option linter.unusedSectionVars false
set_option linter.unnecessarySimpa false
set_option linter.defProp false
namespace Go.Proofs.YtabffcplbjaklaaGreatDoor
open Go.RowKit Abs Stab
theorem rising_get {Y : List Header} (h : Rising hid Y) {s t : Nat} (hst : s ≤ t) {u v : Header} (hu : Y[s]? = some u) (hv : Y[t]? = some v) : u.id ≤ v.id := by
  by_cases e : s = t
  · subst e; rw [hu] at hv; cases hv; exact Int.le_refl _
  · obtain ⟨h1, rfl⟩ := List.getElem?_eq_some_iff.1 hu
    obtain ⟨h2, rfl⟩ := List.getElem?_eq_some_iff.1 hv
    exact List.pairwise_iff_getElem.1 h s t h1 h2 (by omega)
theorem swap_adj2 (P Q : List Header) (x y : Header) : ((P ++ x :: y :: Q).set P.length y).set (P.length + 1) x = P ++ y :: x :: Q := by
  rw [set_mid, List.set_append_right _ _ (by omega), show P.length + 1 - P.length = 1 by omega, List.set_cons_succ, List.set_cons_zero]
theorem Small.of {L L' : List Header} (h : Small L) (hm : ∀ z, z ∈ L' → z ∈ L) : Small L' := fun z hz => h z (hm z hz)
theorem hs_in {A Y B : List Header} {t : Nat} {y : Header} (hy : Y[t]? = some y) : (A ++ Y ++ B)[A.length + t]? = some y := by
  have := (List.getElem?_eq_some_iff.1 hy).1
  rw [List.append_assoc, List.getElem?_append_right (by omega), show A.length + t - A.length = t by omega, List.getElem?_append_left this]
  exact hy
theorem half_wrap (i j : Nat) (h : i + j ≤ 4000000) : IntKind.i64.wrap ((IntKind.u64.wrap (IntKind.i64.wrap ((i : Int) + (j : Int)))).fdiv (2 ^ min 1 IntKind.u64.bits)) = (((i + j) / 2 : Nat) : Int) := by
  have e1 : IntKind.i64.wrap ((i : Int) + (j : Int)) = ((i + j : Nat) : Int) := by rw [wri (by omega) (by omega)]; omega
  have e2 : IntKind.u64.wrap ((i + j : Nat) : Int) = ((i + j : Nat) : Int) := by
    show ((i + j : Nat) : Int) % (2 ^ 64 : Int) = _
    exact Int.emod_eq_of_lt (by omega) (by have : (2 : Int) ^ 64 = 18446744073709551616 := by decide
                                           omega)
  have e3 : (2 : Int) ^ min 1 IntKind.u64.bits = 2 := rfl
  rw [e1, e2, e3, Int.fdiv_eq_ediv_of_nonneg _ (by decide), wri (by omega) (by omega)]
  omega
set_option maxRecDepth 100000 in
set_option maxHeartbeats 4000000 in
theorem sym_spec (g n c : Nat) : ∀ (N : Nat) (M : Mem) (A X Y B : List Header) (a m b : Nat), X.length + Y.length ≤ N → HdrsIn M g (A ++ X ++ Y ++ B) → (A ++ X ++ Y ++ B).length = n → n ≤ 1000000 → Small (A ++ X ++ Y ++ B) → A.length = a → a + X.length = m → m + Y.length = b → 0 < X.length → 0 < Y.length → Rising hid X → Rising hid Y →
    Abs.Spec Tryz.prog 97 [.slice (some ⟨g, 0, none⟩) n c, .int .i64 (a : Nat), .int .i64 (m : Nat), .int .i64 (b : Nat), cmpV] M
      fun u M' => u = .tuple #[] ∧ (∃ R, Stable hid (X ++ Y) R ∧ HdrsIn M' g (A ++ R ++ B)) ∧ Only [g] M M' ∧ M'.size = M.size := by
  intro N
  induction N with
  | zero => intro M A X Y B a m b hN _ _ _ _ _ _ _ hX; omega
  | succ N ih =>
  intro M A X Y B a m b hN hg hn hn2 hs ha hm hb hX0 hY0 hrx hry
  have hlen : a + X.length + Y.length + B.length = n := by rw [← hn]; simp only [List.length_append]; omega
  have hsm : ∀ z, z ∈ X ∨ z ∈ Y → -1099511627776 ≤ z.id ∧ z.id ≤ 1099511627776 := fun z hz => hs z (by rcases hz with hz | hz <;> simp [hz])
  unfold cmpV
  refine Abs.Spec.walkM Tryz.func97 (by rfl) _ Tryz.results97 _ Tryz.ntmps97 (by simp) ?_
  intro hc hx K
  have w1 : IntKind.i64.wrap ((m : Int) - (a : Int)) = ((X.length : Nat) : Int) := by rw [wri (by omega) (by omega)]; omega
  have w2 : IntKind.i64.wrap ((b : Int) - (m : Int)) = ((Y.length : Nat) : Int) := by rw [wri (by omega) (by omega)]; omega
  refine CW_seq (CW_seq (CW_region ?_))
  simp only [zZ, reduceIte, Nat.reduceLT, Int.reduceToNat, Int.reduceLE, Int.reduceEq, Int.reduceLT, Nat.reduceEqDiff, Nat.reduceAdd, zMn, w1]
  by_cases hX1 : X.length = 1
  · -- one element on the left
    obtain ⟨x, rfl⟩ := List.length_eq_one_iff.1 hX1
    have q : (((([x] : List Header).length : Nat) : Int) == 1) = true := rfl
    have hma : m = a + 1 := by rw [← hm]; rfl
    simp only [q]
    refine CW_cond true (by rfl) (fun _ => CW_seq (CW_region ?_)) (fun h => by cases h)
    simp only [zZ, reduceIte, Nat.reduceLT, Int.reduceToNat, Int.reduceLE, Int.reduceEq, Int.reduceLT, Nat.reduceEqDiff, Nat.reduceAdd, zMn]
    refine CW_seq (CW_region ?_)
    simp only [zZ, reduceIte, Nat.reduceLT, Int.reduceToNat, Int.reduceLE, Int.reduceEq, Int.reduceLT, Nat.reduceEqDiff, Nat.reduceAdd, zMn]
    refine MW_mid (fun f M' => ∃ i : Nat, f = [(0, .slice (some ⟨g, 0, none⟩) n c), (1, .int .i64 (a : Nat)), (10, .int .i64 (i : Nat))] ∧ M' = M ∧ m ≤ i ∧ i ≤ b ∧ (∀ t y, Y[t]? = some y → m + t < i → y.id < x.id) ∧ (∀ t y, Y[t]? = some y → i ≤ m + t → x.id ≤ y.id)) ?_ ?_
    · refine CW_block (MW_loop (fun jj f M' => ∃ i j : Nat, jj = j - i ∧ f = [(0, .slice (some ⟨g, 0, none⟩) n c), (1, .int .i64 (a : Nat)), (4, .func (.func 42) #[] #[]), (10, .int .i64 (i : Nat)), (11, .int .i64 (j : Nat))] ∧ M' = M ∧
        m ≤ i ∧ i ≤ j ∧ j ≤ b ∧ (∀ t y, Y[t]? = some y → m + t < i → y.id < x.id) ∧ (∀ t y, Y[t]? = some y → j ≤ m + t → x.id ≤ y.id)) (b - m) ?_ ?_)
      · refine ⟨[0, 1, 4, 10, 11], ?_⟩
        simp only [zZ, reduceIte, Nat.reduceLT, Int.reduceToNat, Int.reduceLE, Int.reduceEq, Int.reduceLT, Nat.reduceEqDiff, Nat.reduceAdd, keepF]
        refine ⟨M, Thin.refl _, m, b, rfl, rfl, rfl, by omega, by omega, by omega, fun t y _ h => by omega, fun t y hy h => ?_⟩
        have := (List.getElem?_eq_some_iff.1 hy).1
        omega
      · rintro jj f _ ⟨i, j, rfl, rfl, e9, h1, h2, h3, hlo, hhi⟩; replace e9 := e9.symm; subst e9
        refine CW_seq (CW_seq (CW_region ?_))
        simp only [zZ, reduceIte, Nat.reduceLT, Int.reduceToNat, Int.reduceLE, Int.reduceEq, Int.reduceLT, Nat.reduceEqDiff, Nat.reduceAdd, zMn]
        refine CW_cond (decide ((i : Int) < (j : Int))) (by rfl) (fun h => CW_skip ?_) (fun h => CW_exit ?_)
        · have h := of_decide_eq_true h
          simp only [zZ, reduceIte, Nat.reduceLT, Int.reduceToNat, Int.reduceLE, Int.reduceEq, Int.reduceLT, Nat.reduceEqDiff, Nat.reduceAdd]
          refine CW_block (CW_seq (CW_region ?_))
          obtain ⟨hh, hhe⟩ : ∃ hh, hh = (i + j) / 2 := ⟨_, rfl⟩
          have hw := half_wrap i j (by omega)
          rw [← hhe] at hw
          obtain ⟨t, ht⟩ : ∃ t, hh = m + t := ⟨hh - m, by omega⟩
          obtain ⟨y, hy⟩ : ∃ y, Y[t]? = some y := ⟨_, List.getElem?_eq_getElem (by omega)⟩
          have hax : (A ++ [x] ++ Y ++ B)[a]? = some x := by rw [← ha]; simp
          have hay : (A ++ [x] ++ Y ++ B)[hh]? = some y := by
            have := hs_in (A := A ++ [x]) (B := B) hy
            rw [show (A ++ [x]).length + t = hh by rw [List.length_append, List.length_singleton]; omega] at this
            exact this
          have r1 := hdr_row hg hay
          have r2 := hdr_row hg hax
          have z1 : (0 : Int) ≤ (hh : Int) := by omega
          have z2 : (hh : Int) < (n : Int) := by omega
          have z3 : (0 : Int) ≤ (a : Int) := by omega
          have z4 : (a : Int) < (n : Int) := by omega
          have w5 : IntKind.i64.wrap ((hh : Int) + 1) = ((hh + 1 : Nat) : Int) := by rw [wri (by omega) (by omega)]; omega
          simp only [zZ, reduceIte, Nat.reduceLT, Int.reduceToNat, Int.reduceLE, Int.reduceEq, Int.reduceLT, Nat.reduceEqDiff, Nat.reduceAdd, zMn, hw]
          refine CW_seq (CW_draw hmix 9 (by kernel_rfl) (by kernel_rfl) ?_)
          simp only [zZ, reduceIte, Nat.reduceLT, Int.reduceToNat, Int.reduceLE, Int.reduceEq, Int.reduceLT, Nat.reduceEqDiff, Nat.reduceAdd, zMn, z1, z2, z3, z4, and_self, r1, r2]
          refine ⟨by kernel_rfl, _, cmp_spec y x (hsm y (.inr (List.mem_of_getElem? hy))) (hsm x (.inl (by simp))) M, ?_⟩
          rintro _ M9 ⟨rfl, e9⟩; replace e9 := e9.symm; subst e9
          refine ⟨by decide, ?_⟩
          simp only [zZ, reduceIte, Nat.reduceLT, Int.reduceToNat, Int.reduceLE, Int.reduceEq, Int.reduceLT, Nat.reduceEqDiff, Nat.reduceAdd, zMn]
          refine CW_cond (decide (y.id - x.id < 0)) (by rfl) (fun h => CW_region ?_) (fun h => CW_region ?_)
          · have h := of_decide_eq_true h
            simp only [zZ, reduceIte, Nat.reduceLT, Int.reduceToNat, Int.reduceLE, Int.reduceEq, Int.reduceLT, Nat.reduceEqDiff, Nat.reduceAdd, zMn, w5]
            refine ⟨[0, 1, 4, 10, 11], ?_⟩
            simp only [zZ, reduceIte, Nat.reduceLT, Int.reduceToNat, Int.reduceLE, Int.reduceEq, Int.reduceLT, Nat.reduceEqDiff, Nat.reduceAdd, keepF]
            refine ⟨M, Thin.refl _, j - (hh + 1), ⟨hh + 1, j, rfl, rfl, rfl, by omega, by omega, h3, fun s z hz hs => ?_, hhi⟩, by omega⟩
            have := rising_get hry (show s ≤ t by omega) hz hy
            omega
          · have h := of_decide_eq_false h
            simp only [zZ, reduceIte, Nat.reduceLT, Int.reduceToNat, Int.reduceLE, Int.reduceEq, Int.reduceLT, Nat.reduceEqDiff, Nat.reduceAdd, zMn]
            refine ⟨[0, 1, 4, 10, 11], ?_⟩
            simp only [zZ, reduceIte, Nat.reduceLT, Int.reduceToNat, Int.reduceLE, Int.reduceEq, Int.reduceLT, Nat.reduceEqDiff, Nat.reduceAdd, keepF]
            refine ⟨M, Thin.refl _, hh - i, ⟨i, hh, rfl, rfl, rfl, h1, by omega, by omega, hlo, fun s z hz hs => ?_⟩, by omega⟩
            have := rising_get hry (show t ≤ s by omega) hy hz
            omega
        · have h := of_decide_eq_false h
          refine ⟨[0, 1, 10], ?_⟩
          simp only [zZ, reduceIte, Nat.reduceLT, Int.reduceToNat, Int.reduceLE, Int.reduceEq, Int.reduceLT, Nat.reduceEqDiff, Nat.reduceAdd, keepF]
          have : j = i := by omega
          subst this
          exact ⟨M, Thin.refl _, j, rfl, rfl, h1, h3, hlo, hhi⟩
    · rintro _ M9 ⟨i, rfl, e9, h1, h2, hlo, hhi⟩; replace e9 := e9.symm; subst e9
      obtain ⟨Y1, Y2, hYY, hY1⟩ : ∃ Y1 Y2, Y = Y1 ++ Y2 ∧ Y1.length = i - m := ⟨Y.take (i - m), Y.drop (i - m), (List.take_append_drop _ Y).symm, by rw [List.length_take]; omega⟩
      have hY1m : ∀ y ∈ Y1, y.id < x.id := fun y hy => by
        obtain ⟨t, ht1, ht2⟩ := List.mem_iff_getElem.1 hy
        exact hlo t y (by rw [hYY, List.getElem?_append_left ht1, List.getElem?_eq_getElem ht1, ht2]) (by omega)
      have hY2m : ∀ y ∈ Y2, x.id ≤ y.id := fun y hy => by
        obtain ⟨t, ht1, ht2⟩ := List.mem_iff_getElem.1 hy
        exact hhi (Y1.length + t) y (by rw [hYY, List.getElem?_append_right (by omega), show Y1.length + t - Y1.length = t by omega, List.getElem?_eq_getElem ht1, ht2]) (by omega)
      have hst : Stable hid ([x] ++ Y) (Y1 ++ x :: Y2) := by
        rw [hYY] at hry ⊢
        exact insert_left hid hry hY1m hY2m
      have hYl : Y.length = Y1.length + Y2.length := by rw [hYY, List.length_append]
      refine CW_seq (CW_seq (CW_region ?_))
      simp only [zZ, reduceIte, Nat.reduceLT, Int.reduceToNat, Int.reduceLE, Int.reduceEq, Int.reduceLT, Nat.reduceEqDiff, Nat.reduceAdd, zMn]
      refine CW_block (MW_loop (fun jj f M' => ∃ (k : Nat) (Ya Yb : List Header), jj = i - k ∧ f = [(0, .slice (some ⟨g, 0, none⟩) n c), (10, .int .i64 (i : Nat)), (13, .int .i64 (k : Nat))] ∧ Y1 = Ya ++ Yb ∧ k = a + Ya.length ∧ HdrsIn M' g (A ++ Ya ++ x :: Yb ++ Y2 ++ B) ∧ Only [g] M M' ∧ M'.size = M.size) (i - a) ?_ ?_)
      · refine ⟨[0, 10, 13], ?_⟩
        simp only [zZ, reduceIte, Nat.reduceLT, Int.reduceToNat, Int.reduceLE, Int.reduceEq, Int.reduceLT, Nat.reduceEqDiff, Nat.reduceAdd, keepF]
        exact ⟨M, Thin.refl _, a, [], Y1, rfl, rfl, rfl, rfl, by rw [hYY] at hg; simpa using hg, Only.refl _ _, rfl⟩
      · rintro jj f M' ⟨k, Ya, Yb, rfl, rfl, hYa, hk, hg', ho, hsz⟩
        have hYal := congrArg List.length hYa
        rw [List.length_append] at hYal
        have wi : IntKind.i64.wrap ((i : Int) - 1) = ((i - 1 : Nat) : Int) := by rw [wri (by omega) (by omega)]; omega
        refine CW_seq (CW_seq (CW_region ?_))
        simp only [zZ, reduceIte, Nat.reduceLT, Int.reduceToNat, Int.reduceLE, Int.reduceEq, Int.reduceLT, Nat.reduceEqDiff, Nat.reduceAdd, zMn, wi]
        refine CW_cond (decide ((k : Int) < ((i - 1 : Nat) : Int))) (by rfl) (fun h => CW_skip ?_) (fun h => CW_exit ?_)
        · have h := of_decide_eq_true h
          obtain ⟨y, Yc, rfl⟩ : ∃ y Yc, Yb = y :: Yc := by
            cases Yb with
            | nil => rw [List.length_nil] at hYal; omega
            | cons y Yc => exact ⟨y, Yc, rfl⟩
          obtain ⟨P, hP⟩ : ∃ P, P = A ++ Ya := ⟨_, rfl⟩
          obtain ⟨T, hT⟩ : ∃ T, T = Yc ++ Y2 ++ B := ⟨_, rfl⟩
          have hPl : P.length = k := by rw [hP, List.length_append]; omega
          have hL : A ++ Ya ++ x :: y :: Yc ++ Y2 ++ B = P ++ x :: y :: T := by rw [hP, hT]; simp
          rw [hL] at hg'
          have at0 : (P ++ x :: y :: T)[k]? = some x := by rw [← hPl]; exact at_mid P _ x
          have at1 : (P ++ x :: y :: T)[k + 1]? = some y := by rw [← hPl]; exact at_mid1 P T y x
          have r0 := hdr_row hg' at0
          have r1 := hdr_row hg' at1
          obtain ⟨M3, hp3, hg3, ho3, hs3⟩ := hdr_put hg' at0 y
          obtain ⟨M4, hp4, hg4, ho4, hs4⟩ := hdr_put hg3 (show ((P ++ x :: y :: T).set k y)[k + 1]? = some y by rw [List.getElem?_set_ne (by omega)]; exact at1) x
          rw [← hPl, swap_adj2] at hg4
          have w5 : IntKind.i64.wrap ((k : Int) + 1) = ((k + 1 : Nat) : Int) := by rw [wri (by omega) (by omega)]; omega
          have z1 : (0 : Int) ≤ (k : Int) := by omega
          have z2 : (k : Int) < (n : Int) := by omega
          have z3 : (0 : Int) ≤ ((k + 1 : Nat) : Int) := by omega
          have z4 : ((k + 1 : Nat) : Int) < (n : Int) := by omega
          simp only [zZ, reduceIte, Nat.reduceLT, Int.reduceToNat, Int.reduceLE, Int.reduceEq, Int.reduceLT, Nat.reduceEqDiff, Nat.reduceAdd]
          refine CW_seq (CW_block (CW_draw4 hmix 15 [2, 3, 4] (by kernel_rfl) ?_))
          simp only [sQB, idleOK, Option.bind_some, zZ, reduceIte, Nat.reduceLT, Int.reduceToNat, Int.reduceLE, Int.reduceEq, Int.reduceLT, Nat.reduceEqDiff, Nat.reduceAdd, zMn, w5, z1, z2, z3, z4, and_self, r0, r1, hp3, hp4]
          refine ⟨⟨⟨_, rfl⟩, ⟨_, rfl⟩, ⟨_, rfl⟩⟩, ?_⟩
          refine CW_region ?_
          simp only [zZ, reduceIte, Nat.reduceLT, Int.reduceToNat, Int.reduceLE, Int.reduceEq, Int.reduceLT, Nat.reduceEqDiff, Nat.reduceAdd, zMn, w5]
          refine ⟨[0, 10, 13], ?_⟩
          simp only [zZ, reduceIte, Nat.reduceLT, Int.reduceToNat, Int.reduceLE, Int.reduceEq, Int.reduceLT, Nat.reduceEqDiff, Nat.reduceAdd, keepF]
          refine ⟨M4, Thin.refl _, i - (k + 1), ⟨k + 1, Ya ++ [y], Yc, rfl, rfl, by rw [hYa]; simp, by rw [List.length_append, List.length_singleton]; omega, ?_, ho.trans (ho3.trans ho4), by omega⟩, by omega⟩
          have e : A ++ (Ya ++ [y]) ++ x :: Yc ++ Y2 ++ B = P ++ y :: x :: T := by rw [hP, hT]; simp
          rw [e]; exact hg4
        · have h := of_decide_eq_false h
          have hb0 : Yb = [] := List.eq_nil_of_length_eq_zero (by omega)
          rw [hb0, List.append_nil] at hYa
          simp only [zZ, reduceIte, Nat.reduceLT, Int.reduceToNat, Int.reduceLE, Int.reduceEq, Int.reduceLT, Nat.reduceEqDiff, Nat.reduceAdd, zMn]
          refine CW_ret ?_
          simp only [zZ, reduceIte, Nat.reduceLT, Int.reduceToNat, Int.reduceLE, Int.reduceEq, Int.reduceLT, Nat.reduceEqDiff, Nat.reduceAdd, zMn, mEnd, sAnswer, sAnswer.sRes]
          refine ⟨M', Thin.refl _, ⟨Y1 ++ x :: Y2, hst, ?_⟩, ho, hsz⟩
          rw [hb0, ← hYa] at hg'
          simpa using hg'
  · have q : (((X.length : Nat) : Int) == 1) = false := by rw [beq_eq_false_iff_ne]; omega
    simp only [q]
    refine CW_cond false (by rfl) (fun h => by cases h) (fun _ => CW_skip ?_)
    simp only [zZ, reduceIte, Nat.reduceLT, Int.reduceToNat, Int.reduceLE, Int.reduceEq, Int.reduceLT, Nat.reduceEqDiff, Nat.reduceAdd]
    refine CW_seq (CW_seq (CW_region ?_))
    simp only [zZ, reduceIte, Nat.reduceLT, Int.reduceToNat, Int.reduceLE, Int.reduceEq, Int.reduceLT, Nat.reduceEqDiff, Nat.reduceAdd, zMn, w2]
    by_cases hY1 : Y.length = 1
    · -- one element on the right
      obtain ⟨y, rfl⟩ := List.length_eq_one_iff.1 hY1
      have q : (((([y] : List Header).length : Nat) : Int) == 1) = true := rfl
      have hmb : b = m + 1 := by rw [← hb]; rfl
      simp only [q]
      refine CW_cond true (by rfl) (fun _ => CW_seq (CW_region ?_)) (fun h => by cases h)
      simp only [zZ, reduceIte, Nat.reduceLT, Int.reduceToNat, Int.reduceLE, Int.reduceEq, Int.reduceLT, Nat.reduceEqDiff, Nat.reduceAdd, zMn]
      refine CW_seq (CW_region ?_)
      simp only [zZ, reduceIte, Nat.reduceLT, Int.reduceToNat, Int.reduceLE, Int.reduceEq, Int.reduceLT, Nat.reduceEqDiff, Nat.reduceAdd, zMn]
      refine MW_mid (fun f M' => ∃ i : Nat, f = [(0, .slice (some ⟨g, 0, none⟩) n c), (2, .int .i64 (m : Nat)), (14, .int .i64 (i : Nat))] ∧ M' = M ∧ a ≤ i ∧ i ≤ m ∧ (∀ t x, X[t]? = some x → a + t < i → x.id ≤ y.id) ∧ (∀ t x, X[t]? = some x → i ≤ a + t → y.id < x.id)) ?_ ?_
      · refine CW_block (MW_loop (fun jj f M' => ∃ i j : Nat, jj = j - i ∧ f = [(0, .slice (some ⟨g, 0, none⟩) n c), (2, .int .i64 (m : Nat)), (4, .func (.func 42) #[] #[]), (14, .int .i64 (i : Nat)), (15, .int .i64 (j : Nat))] ∧ M' = M ∧
          a ≤ i ∧ i ≤ j ∧ j ≤ m ∧ (∀ t x, X[t]? = some x → a + t < i → x.id ≤ y.id) ∧ (∀ t x, X[t]? = some x → j ≤ a + t → y.id < x.id)) (m - a) ?_ ?_)
        · refine ⟨[0, 2, 4, 14, 15], ?_⟩
          simp only [zZ, reduceIte, Nat.reduceLT, Int.reduceToNat, Int.reduceLE, Int.reduceEq, Int.reduceLT, Nat.reduceEqDiff, Nat.reduceAdd, keepF]
          refine ⟨M, Thin.refl _, a, m, rfl, rfl, rfl, by omega, by omega, by omega, fun t x _ h => by omega, fun t x hx h => ?_⟩
          have := (List.getElem?_eq_some_iff.1 hx).1
          omega
        · rintro jj f _ ⟨i, j, rfl, rfl, e9, h1, h2, h3, hlo, hhi⟩; replace e9 := e9.symm; subst e9
          refine CW_seq (CW_seq (CW_region ?_))
          simp only [zZ, reduceIte, Nat.reduceLT, Int.reduceToNat, Int.reduceLE, Int.reduceEq, Int.reduceLT, Nat.reduceEqDiff, Nat.reduceAdd, zMn]
          refine CW_cond (decide ((i : Int) < (j : Int))) (by rfl) (fun h => CW_skip ?_) (fun h => CW_exit ?_)
          · have h := of_decide_eq_true h
            simp only [zZ, reduceIte, Nat.reduceLT, Int.reduceToNat, Int.reduceLE, Int.reduceEq, Int.reduceLT, Nat.reduceEqDiff, Nat.reduceAdd]
            refine CW_block (CW_seq (CW_region ?_))
            obtain ⟨hh, hhe⟩ : ∃ hh, hh = (i + j) / 2 := ⟨_, rfl⟩
            have hw := half_wrap i j (by omega)
            rw [← hhe] at hw
            obtain ⟨t, ht⟩ : ∃ t, hh = a + t := ⟨hh - a, by omega⟩
            obtain ⟨x, hx⟩ : ∃ x, X[t]? = some x := ⟨_, List.getElem?_eq_getElem (by omega)⟩
            have hay : (A ++ X ++ [y] ++ B)[m]? = some y := by
              have := hs_in (A := A ++ X) (B := B) (show [y][0]? = some y from rfl)
              rw [show (A ++ X).length + 0 = m by rw [List.length_append]; omega] at this
              exact this
            have hax : (A ++ X ++ [y] ++ B)[hh]? = some x := by
              have := hs_in (A := A) (B := [y] ++ B) hx
              rw [show A.length + t = hh by omega] at this
              simpa using this
            have r1 := hdr_row hg hax
            have r2 := hdr_row hg hay
            have z1 : (0 : Int) ≤ (hh : Int) := by omega
            have z2 : (hh : Int) < (n : Int) := by omega
            have z3 : (0 : Int) ≤ (m : Int) := by omega
            have z4 : (m : Int) < (n : Int) := by omega
            have w5 : IntKind.i64.wrap ((hh : Int) + 1) = ((hh + 1 : Nat) : Int) := by rw [wri (by omega) (by omega)]; omega
            simp only [zZ, reduceIte, Nat.reduceLT, Int.reduceToNat, Int.reduceLE, Int.reduceEq, Int.reduceLT, Nat.reduceEqDiff, Nat.reduceAdd, zMn, hw]
            refine CW_seq (CW_draw hmix 9 (by kernel_rfl) (by kernel_rfl) ?_)
            simp only [zZ, reduceIte, Nat.reduceLT, Int.reduceToNat, Int.reduceLE, Int.reduceEq, Int.reduceLT, Nat.reduceEqDiff, Nat.reduceAdd, zMn, z1, z2, z3, z4, and_self, r1, r2]
            refine ⟨by kernel_rfl, _, cmp_spec y x (hsm y (.inr (by simp))) (hsm x (.inl (List.mem_of_getElem? hx))) M, ?_⟩
            rintro _ M9 ⟨rfl, e9⟩; replace e9 := e9.symm; subst e9
            refine ⟨by decide, ?_⟩
            simp only [zZ, reduceIte, Nat.reduceLT, Int.reduceToNat, Int.reduceLE, Int.reduceEq, Int.reduceLT, Nat.reduceEqDiff, Nat.reduceAdd, zMn]
            refine CW_cond (!decide (y.id - x.id < 0)) (by rfl) (fun h => CW_region ?_) (fun h => CW_region ?_)
            · have h : ¬ (y.id - x.id < 0) := by simpa using h
              simp only [zZ, reduceIte, Nat.reduceLT, Int.reduceToNat, Int.reduceLE, Int.reduceEq, Int.reduceLT, Nat.reduceEqDiff, Nat.reduceAdd, zMn, w5]
              refine ⟨[0, 2, 4, 14, 15], ?_⟩
              simp only [zZ, reduceIte, Nat.reduceLT, Int.reduceToNat, Int.reduceLE, Int.reduceEq, Int.reduceLT, Nat.reduceEqDiff, Nat.reduceAdd, keepF]
              refine ⟨M, Thin.refl _, j - (hh + 1), ⟨hh + 1, j, rfl, rfl, rfl, by omega, by omega, h3, fun s z hz hs => ?_, hhi⟩, by omega⟩
              have := rising_get hrx (show s ≤ t by omega) hz hx
              omega
            · have h : y.id - x.id < 0 := by simpa using h
              simp only [zZ, reduceIte, Nat.reduceLT, Int.reduceToNat, Int.reduceLE, Int.reduceEq, Int.reduceLT, Nat.reduceEqDiff, Nat.reduceAdd, zMn]
              refine ⟨[0, 2, 4, 14, 15], ?_⟩
              simp only [zZ, reduceIte, Nat.reduceLT, Int.reduceToNat, Int.reduceLE, Int.reduceEq, Int.reduceLT, Nat.reduceEqDiff, Nat.reduceAdd, keepF]
              refine ⟨M, Thin.refl _, hh - i, ⟨i, hh, rfl, rfl, rfl, h1, by omega, by omega, hlo, fun s z hz hs => ?_⟩, by omega⟩
              have := rising_get hrx (show t ≤ s by omega) hx hz
              omega
          · have h := of_decide_eq_false h
            refine ⟨[0, 2, 14], ?_⟩
            simp only [zZ, reduceIte, Nat.reduceLT, Int.reduceToNat, Int.reduceLE, Int.reduceEq, Int.reduceLT, Nat.reduceEqDiff, Nat.reduceAdd, keepF]
            have : j = i := by omega
            subst this
            exact ⟨M, Thin.refl _, j, rfl, rfl, h1, h3, hlo, hhi⟩
      · rintro _ M9 ⟨i, rfl, e9, h1, h2, hlo, hhi⟩; replace e9 := e9.symm; subst e9
        obtain ⟨X1, X2, hXX, hX1l⟩ : ∃ X1 X2, X = X1 ++ X2 ∧ X1.length = i - a := ⟨X.take (i - a), X.drop (i - a), (List.take_append_drop _ X).symm, by rw [List.length_take]; omega⟩
        have hX1m : ∀ x ∈ X1, x.id ≤ y.id := fun x hx => by
          obtain ⟨t, ht1, ht2⟩ := List.mem_iff_getElem.1 hx
          exact hlo t x (by rw [hXX, List.getElem?_append_left ht1, List.getElem?_eq_getElem ht1, ht2]) (by omega)
        have hX2m : ∀ x ∈ X2, y.id < x.id := fun x hx => by
          obtain ⟨t, ht1, ht2⟩ := List.mem_iff_getElem.1 hx
          exact hhi (X1.length + t) x (by rw [hXX, List.getElem?_append_right (by omega), show X1.length + t - X1.length = t by omega, List.getElem?_eq_getElem ht1, ht2]) (by omega)
        have hst : Stable hid (X ++ [y]) (X1 ++ y :: X2) := by
          rw [hXX] at hrx ⊢
          exact insert_right hid hrx hX1m hX2m
        have hXl : X.length = X1.length + X2.length := by rw [hXX, List.length_append]
        refine CW_seq (CW_seq (CW_region ?_))
        simp only [zZ, reduceIte, Nat.reduceLT, Int.reduceToNat, Int.reduceLE, Int.reduceEq, Int.reduceLT, Nat.reduceEqDiff, Nat.reduceAdd, zMn]
        refine CW_block (MW_loop (fun jj f M' => ∃ (k : Nat) (Xa Xb : List Header), jj = k ∧ f = [(0, .slice (some ⟨g, 0, none⟩) n c), (14, .int .i64 (i : Nat)), (17, .int .i64 (k : Nat))] ∧ X2 = Xa ++ Xb ∧ k = i + Xa.length ∧ HdrsIn M' g (A ++ X1 ++ Xa ++ y :: Xb ++ B) ∧ Only [g] M M' ∧ M'.size = M.size) m ?_ ?_)
        · refine ⟨[0, 14, 17], ?_⟩
          simp only [zZ, reduceIte, Nat.reduceLT, Int.reduceToNat, Int.reduceLE, Int.reduceEq, Int.reduceLT, Nat.reduceEqDiff, Nat.reduceAdd, keepF]
          exact ⟨M, Thin.refl _, m, X2, [], rfl, rfl, by simp, by omega, by rw [hXX] at hg; simpa using hg, Only.refl _ _, rfl⟩
        · rintro k f M' ⟨_, Xa, Xb, rfl, rfl, hXa, hk, hg', ho, hsz⟩
          have hXal := congrArg List.length hXa
          rw [List.length_append] at hXal
          refine CW_seq (CW_seq (CW_region ?_))
          simp only [zZ, reduceIte, Nat.reduceLT, Int.reduceToNat, Int.reduceLE, Int.reduceEq, Int.reduceLT, Nat.reduceEqDiff, Nat.reduceAdd, zMn]
          refine CW_cond (decide ((i : Int) < (k : Int))) (by rfl) (fun h => CW_skip ?_) (fun h => CW_exit ?_)
          · have h := of_decide_eq_true h
            rcases List.eq_nil_or_concat Xa with rfl | ⟨Xc, x, rfl⟩
            · rw [List.length_nil] at hk; omega
            rw [List.concat_eq_append] at *
            rw [List.length_append, List.length_singleton] at hk hXal
            obtain ⟨P, hP⟩ : ∃ P, P = A ++ X1 ++ Xc := ⟨_, rfl⟩
            obtain ⟨T, hT⟩ : ∃ T, T = Xb ++ B := ⟨_, rfl⟩
            have hPl : P.length + 1 = k := by rw [hP, List.length_append, List.length_append]; omega
            have hL : A ++ X1 ++ (Xc ++ [x]) ++ y :: Xb ++ B = P ++ x :: y :: T := by rw [hP, hT]; simp
            rw [hL] at hg'
            have at0 : (P ++ x :: y :: T)[P.length]? = some x := at_mid P _ x
            have at1 : (P ++ x :: y :: T)[k]? = some y := by rw [← hPl]; exact at_mid1 P T y x
            have r0 := hdr_row hg' at0
            have r1 := hdr_row hg' at1
            obtain ⟨M3, hp3, hg3, ho3, hs3⟩ := hdr_put hg' at1 x
            obtain ⟨M4, hp4, hg4, ho4, hs4⟩ := hdr_put hg3 (show ((P ++ x :: y :: T).set k x)[P.length]? = some x by rw [List.getElem?_set_ne (by omega)]; exact at0) y
            rw [← hPl, swap_adj] at hg4
            have w5 : IntKind.i64.wrap ((k : Int) - 1) = ((P.length : Nat) : Int) := by rw [wri (by omega) (by omega)]; omega
            have z1 : (0 : Int) ≤ (k : Int) := by omega
            have z2 : (k : Int) < (n : Int) := by omega
            have z3 : (0 : Int) ≤ ((P.length : Nat) : Int) := by omega
            have z4 : ((P.length : Nat) : Int) < (n : Int) := by omega
            simp only [zZ, reduceIte, Nat.reduceLT, Int.reduceToNat, Int.reduceLE, Int.reduceEq, Int.reduceLT, Nat.reduceEqDiff, Nat.reduceAdd]
            refine CW_seq (CW_block (CW_draw4 hmix 15 [2, 3, 4] (by kernel_rfl) ?_))
            simp only [sQB, idleOK, Option.bind_some, zZ, reduceIte, Nat.reduceLT, Int.reduceToNat, Int.reduceLE, Int.reduceEq, Int.reduceLT, Nat.reduceEqDiff, Nat.reduceAdd, zMn, w5, z1, z2, z3, z4, and_self, r0, r1, hp3, hp4]
            refine ⟨⟨⟨_, rfl⟩, ⟨_, rfl⟩, ⟨_, rfl⟩⟩, ?_⟩
            refine CW_region ?_
            simp only [zZ, reduceIte, Nat.reduceLT, Int.reduceToNat, Int.reduceLE, Int.reduceEq, Int.reduceLT, Nat.reduceEqDiff, Nat.reduceAdd, zMn, w5]
            refine ⟨[0, 14, 17], ?_⟩
            simp only [zZ, reduceIte, Nat.reduceLT, Int.reduceToNat, Int.reduceLE, Int.reduceEq, Int.reduceLT, Nat.reduceEqDiff, Nat.reduceAdd, keepF]
            refine ⟨M4, Thin.refl _, P.length, ⟨P.length, Xc, x :: Xb, rfl, rfl, by rw [hXa]; simp, by omega, ?_, ho.trans (ho3.trans ho4), by omega⟩, by omega⟩
            have e : A ++ X1 ++ Xc ++ y :: (x :: Xb) ++ B = P ++ y :: x :: T := by rw [hP, hT]; simp
            rw [e]; exact hg4
          · have h := of_decide_eq_false h
            have hb0 : Xa = [] := List.eq_nil_of_length_eq_zero (by omega)
            rw [hb0, List.nil_append] at hXa
            simp only [zZ, reduceIte, Nat.reduceLT, Int.reduceToNat, Int.reduceLE, Int.reduceEq, Int.reduceLT, Nat.reduceEqDiff, Nat.reduceAdd, zMn]
            refine CW_ret ?_
            simp only [zZ, reduceIte, Nat.reduceLT, Int.reduceToNat, Int.reduceLE, Int.reduceEq, Int.reduceLT, Nat.reduceEqDiff, Nat.reduceAdd, zMn, mEnd, sAnswer, sAnswer.sRes]
            refine ⟨M', Thin.refl _, ⟨X1 ++ y :: X2, hst, ?_⟩, ho, hsz⟩
            rw [hb0, ← hXa] at hg'
            simpa using hg'
    · have q : (((Y.length : Nat) : Int) == 1) = false := by rw [beq_eq_false_iff_ne]; omega
      simp only [q]
      refine CW_cond false (by rfl) (fun h => by cases h) (fun _ => CW_skip ?_)
      simp only [zZ, reduceIte, Nat.reduceLT, Int.reduceToNat, Int.reduceLE, Int.reduceEq, Int.reduceLT, Nat.reduceEqDiff, Nat.reduceAdd]
      have hY2 : 2 ≤ Y.length := by omega
      have hX2 : 2 ≤ X.length := by omega
      obtain ⟨mid, hmid⟩ : ∃ mid, mid = (a + b) / 2 := ⟨_, rfl⟩
      have hw := half_wrap a b (by omega)
      rw [← hmid] at hw
      have hma : a < mid := by omega
      have hmb : mid < b := by omega
      have hab : a ≤ mid ∧ 2 * mid ≤ a + b ∧ a + b ≤ 2 * mid + 1 := by omega
      have w5 : IntKind.i64.wrap ((mid : Int) + (m : Int)) = ((mid + m : Nat) : Int) := by rw [wri (by omega) (by omega)]; omega
      refine CW_seq (CW_region ?_)
      simp only [zZ, reduceIte, Nat.reduceLT, Int.reduceToNat, Int.reduceLE, Int.reduceEq, Int.reduceLT, Nat.reduceEqDiff, Nat.reduceAdd, zMn, hw]
      refine CW_seq (CW_region ?_)
      simp only [zZ, reduceIte, Nat.reduceLT, Int.reduceToNat, Int.reduceLE, Int.reduceEq, Int.reduceLT, Nat.reduceEqDiff, Nat.reduceAdd, zMn, w5]
      refine CW_seq (CW_region ?_)
      simp only [zZ, reduceIte, Nat.reduceLT, Int.reduceToNat, Int.reduceLE, Int.reduceEq, Int.reduceLT, Nat.reduceEqDiff, Nat.reduceAdd, zMn]
      refine MW_mid (fun f M' => ∃ s0 r0 : Nat, f = [(0, .slice (some ⟨g, 0, none⟩) n c), (1, .int .i64 (a : Nat)), (2, .int .i64 (m : Nat)), (3, .int .i64 (b : Nat)), (4, .func (.func 42) #[] #[]), (18, .int .i64 (mid : Nat)), (19, .int .i64 ((mid + m : Nat) : Int)), (20, .int .i64 (s0 : Nat)), (21, .int .i64 (r0 : Nat))] ∧ M' = M ∧ ((mid < m ∧ s0 = mid + m - b ∧ r0 = mid) ∨ (m ≤ mid ∧ s0 = a ∧ r0 = m))) ?_ ?_
      · refine CW_seq (CW_region ?_)
        simp only [zZ, reduceIte, Nat.reduceLT, Int.reduceToNat, Int.reduceLE, Int.reduceEq, Int.reduceLT, Nat.reduceEqDiff, Nat.reduceAdd, zMn]
        refine CW_cond (decide ((mid : Int) < (m : Int))) (by rfl) (fun h => CW_seq (CW_region ?_)) (fun h => CW_seq (CW_region ?_))
        · have h := of_decide_eq_true h
          have w6 : IntKind.i64.wrap (((mid + m : Nat) : Int) - (b : Int)) = ((mid + m - b : Nat) : Int) := by rw [wri (by omega) (by omega)]; omega
          simp only [zZ, reduceIte, Nat.reduceLT, Int.reduceToNat, Int.reduceLE, Int.reduceEq, Int.reduceLT, Nat.reduceEqDiff, Nat.reduceAdd, zMn, w6]
          refine CW_region ?_
          simp only [zZ, reduceIte, Nat.reduceLT, Int.reduceToNat, Int.reduceLE, Int.reduceEq, Int.reduceLT, Nat.reduceEqDiff, Nat.reduceAdd, zMn]
          refine ⟨[0, 1, 2, 3, 4, 18, 19, 20, 21], ?_⟩
          simp only [zZ, reduceIte, Nat.reduceLT, Int.reduceToNat, Int.reduceLE, Int.reduceEq, Int.reduceLT, Nat.reduceEqDiff, Nat.reduceAdd, keepF]
          exact ⟨M, Thin.refl _, mid + m - b, mid, rfl, rfl, .inl ⟨by omega, rfl, rfl⟩⟩
        · have h := of_decide_eq_false h
          simp only [zZ, reduceIte, Nat.reduceLT, Int.reduceToNat, Int.reduceLE, Int.reduceEq, Int.reduceLT, Nat.reduceEqDiff, Nat.reduceAdd, zMn]
          refine CW_region ?_
          simp only [zZ, reduceIte, Nat.reduceLT, Int.reduceToNat, Int.reduceLE, Int.reduceEq, Int.reduceLT, Nat.reduceEqDiff, Nat.reduceAdd, zMn]
          refine ⟨[0, 1, 2, 3, 4, 18, 19, 20, 21], ?_⟩
          simp only [zZ, reduceIte, Nat.reduceLT, Int.reduceToNat, Int.reduceLE, Int.reduceEq, Int.reduceLT, Nat.reduceEqDiff, Nat.reduceAdd, keepF]
          exact ⟨M, Thin.refl _, a, m, rfl, rfl, .inr ⟨by omega, rfl, rfl⟩⟩
      rintro _ M9 ⟨s0, r0, rfl, e9, hsr⟩; replace e9 := e9.symm; subst e9
      have hsr1 : a ≤ s0 ∧ s0 ≤ r0 ∧ r0 ≤ m ∧ r0 ≤ mid := by omega
      have hs0b : mid + m ≤ s0 + b := by omega
      have hr0m : m ≤ mid + m - r0 := by omega
      have w7 : IntKind.i64.wrap (((mid + m : Nat) : Int) - 1) = ((mid + m - 1 : Nat) : Int) := by rw [wri (by omega) (by omega)]; omega
      refine CW_seq (CW_region ?_)
      simp only [zZ, reduceIte, Nat.reduceLT, Int.reduceToNat, Int.reduceLE, Int.reduceEq, Int.reduceLT, Nat.reduceEqDiff, Nat.reduceAdd, zMn, w7]
      refine MW_mid (fun f M' => ∃ st : Nat, f = [(0, .slice (some ⟨g, 0, none⟩) n c), (1, .int .i64 (a : Nat)), (2, .int .i64 (m : Nat)), (3, .int .i64 (b : Nat)), (4, .func (.func 42) #[] #[]), (18, .int .i64 (mid : Nat)), (19, .int .i64 ((mid + m : Nat) : Int)), (20, .int .i64 (st : Nat))] ∧ M' = M ∧ s0 ≤ st ∧ st ≤ r0 ∧
        (s0 < st → ∀ x y, X[st - 1 - a]? = some x → Y[mid + m - 1 - (st - 1) - m]? = some y → x.id ≤ y.id) ∧ (st < r0 → ∀ x y, X[st - a]? = some x → Y[mid + m - 1 - st - m]? = some y → y.id < x.id)) ?_ ?_
      · refine CW_block (MW_loop (fun jj f M' => ∃ st r : Nat, jj = r - st ∧ f = [(0, .slice (some ⟨g, 0, none⟩) n c), (1, .int .i64 (a : Nat)), (2, .int .i64 (m : Nat)), (3, .int .i64 (b : Nat)), (4, .func (.func 42) #[] #[]), (18, .int .i64 (mid : Nat)), (19, .int .i64 ((mid + m : Nat) : Int)), (20, .int .i64 (st : Nat)), (21, .int .i64 (r : Nat)), (22, .int .i64 ((mid + m - 1 : Nat) : Int))] ∧ M' = M ∧ s0 ≤ st ∧ st ≤ r ∧ r ≤ r0 ∧
          (s0 < st → ∀ x y, X[st - 1 - a]? = some x → Y[mid + m - 1 - (st - 1) - m]? = some y → x.id ≤ y.id) ∧ (r < r0 → ∀ x y, X[r - a]? = some x → Y[mid + m - 1 - r - m]? = some y → y.id < x.id)) (r0 - s0) ?_ ?_)
        · refine ⟨[0, 1, 2, 3, 4, 18, 19, 20, 21, 22], ?_⟩
          simp only [zZ, reduceIte, Nat.reduceLT, Int.reduceToNat, Int.reduceLE, Int.reduceEq, Int.reduceLT, Nat.reduceEqDiff, Nat.reduceAdd, keepF]
          exact ⟨M, Thin.refl _, s0, r0, rfl, rfl, rfl, Nat.le_refl _, hsr1.2.1, Nat.le_refl _, fun h => by omega, fun h => by omega⟩
        · rintro jj f _ ⟨st, r, rfl, rfl, e9, h1, h2, h3, hlo, hhi⟩; replace e9 := e9.symm; subst e9
          refine CW_seq (CW_seq (CW_region ?_))
          simp only [zZ, reduceIte, Nat.reduceLT, Int.reduceToNat, Int.reduceLE, Int.reduceEq, Int.reduceLT, Nat.reduceEqDiff, Nat.reduceAdd, zMn]
          refine CW_cond (decide ((st : Int) < (r : Int))) (by rfl) (fun h => CW_skip ?_) (fun h => CW_exit ?_)
          · have h := of_decide_eq_true h
            simp only [zZ, reduceIte, Nat.reduceLT, Int.reduceToNat, Int.reduceLE, Int.reduceEq, Int.reduceLT, Nat.reduceEqDiff, Nat.reduceAdd]
            refine CW_block (CW_seq (CW_region ?_))
            obtain ⟨hh, hhe⟩ : ∃ hh, hh = (st + r) / 2 := ⟨_, rfl⟩
            have hw := half_wrap st r (by omega)
            rw [← hhe] at hw
            have hh1 : st ≤ hh ∧ hh < r := by omega
            obtain ⟨x, hx⟩ : ∃ x, X[hh - a]? = some x := ⟨_, List.getElem?_eq_getElem (by omega)⟩
            obtain ⟨y, hy⟩ : ∃ y, Y[mid + m - 1 - hh - m]? = some y := ⟨_, List.getElem?_eq_getElem (by omega)⟩
            have hax : (A ++ X ++ Y ++ B)[hh]? = some x := by
              have := hs_in (A := A) (B := Y ++ B) hx
              rw [show A.length + (hh - a) = hh by omega] at this
              simpa using this
            have hay : (A ++ X ++ Y ++ B)[mid + m - 1 - hh]? = some y := by
              have := hs_in (A := A ++ X) (B := B) hy
              rw [show (A ++ X).length + (mid + m - 1 - hh - m) = mid + m - 1 - hh by rw [List.length_append]; omega] at this
              exact this
            have r1 := hdr_row hg hax
            have r2 := hdr_row hg hay
            have w8 : IntKind.i64.wrap (((mid + m - 1 : Nat) : Int) - (hh : Int)) = ((mid + m - 1 - hh : Nat) : Int) := by rw [wri (by omega) (by omega)]; omega
            have z1 : (0 : Int) ≤ (hh : Int) := by omega
            have z2 : (hh : Int) < (n : Int) := by omega
            have z3 : (0 : Int) ≤ ((mid + m - 1 - hh : Nat) : Int) := by omega
            have z4 : ((mid + m - 1 - hh : Nat) : Int) < (n : Int) := by omega
            have w9 : IntKind.i64.wrap ((hh : Int) + 1) = ((hh + 1 : Nat) : Int) := by rw [wri (by omega) (by omega)]; omega
            simp only [zZ, reduceIte, Nat.reduceLT, Int.reduceToNat, Int.reduceLE, Int.reduceEq, Int.reduceLT, Nat.reduceEqDiff, Nat.reduceAdd, zMn, hw]
            refine CW_seq (CW_draw hmix 11 (by kernel_rfl) (by kernel_rfl) ?_)
            simp only [zZ, reduceIte, Nat.reduceLT, Int.reduceToNat, Int.reduceLE, Int.reduceEq, Int.reduceLT, Nat.reduceEqDiff, Nat.reduceAdd, zMn, w8, z1, z2, z3, z4, and_self, r1, r2]
            refine ⟨by kernel_rfl, _, cmp_spec y x (hsm y (.inr (List.mem_of_getElem? hy))) (hsm x (.inl (List.mem_of_getElem? hx))) M, ?_⟩
            rintro _ M9 ⟨rfl, e9⟩; replace e9 := e9.symm; subst e9
            refine ⟨by decide, ?_⟩
            simp only [zZ, reduceIte, Nat.reduceLT, Int.reduceToNat, Int.reduceLE, Int.reduceEq, Int.reduceLT, Nat.reduceEqDiff, Nat.reduceAdd, zMn]
            refine CW_cond (!decide (y.id - x.id < 0)) (by rfl) (fun h => CW_region ?_) (fun h => CW_region ?_)
            · have h : ¬ (y.id - x.id < 0) := by simpa using h
              simp only [zZ, reduceIte, Nat.reduceLT, Int.reduceToNat, Int.reduceLE, Int.reduceEq, Int.reduceLT, Nat.reduceEqDiff, Nat.reduceAdd, zMn, w9]
              refine ⟨[0, 1, 2, 3, 4, 18, 19, 20, 21, 22], ?_⟩
              simp only [zZ, reduceIte, Nat.reduceLT, Int.reduceToNat, Int.reduceLE, Int.reduceEq, Int.reduceLT, Nat.reduceEqDiff, Nat.reduceAdd, keepF]
              refine ⟨M, Thin.refl _, r - (hh + 1), ⟨hh + 1, r, rfl, rfl, rfl, by omega, by omega, h3, fun _ x' y' hx' hy' => ?_, hhi⟩, by omega⟩
              rw [Nat.add_sub_cancel] at hx' hy'
              rw [hx] at hx'
              rw [hy] at hy'
              cases hx'
              cases hy'
              omega
            · have h : y.id - x.id < 0 := by simpa using h
              simp only [zZ, reduceIte, Nat.reduceLT, Int.reduceToNat, Int.reduceLE, Int.reduceEq, Int.reduceLT, Nat.reduceEqDiff, Nat.reduceAdd, zMn]
              refine ⟨[0, 1, 2, 3, 4, 18, 19, 20, 21, 22], ?_⟩
              simp only [zZ, reduceIte, Nat.reduceLT, Int.reduceToNat, Int.reduceLE, Int.reduceEq, Int.reduceLT, Nat.reduceEqDiff, Nat.reduceAdd, keepF]
              refine ⟨M, Thin.refl _, hh - st, ⟨st, hh, rfl, rfl, rfl, h1, by omega, by omega, hlo, fun _ x' y' hx' hy' => ?_⟩, by omega⟩
              rw [hx] at hx'
              rw [hy] at hy'
              cases hx'
              cases hy'
              omega
          · have h := of_decide_eq_false h
            refine ⟨[0, 1, 2, 3, 4, 18, 19, 20], ?_⟩
            simp only [zZ, reduceIte, Nat.reduceLT, Int.reduceToNat, Int.reduceLE, Int.reduceEq, Int.reduceLT, Nat.reduceEqDiff, Nat.reduceAdd, keepF]
            have : r = st := by omega
            subst this
            exact ⟨M, Thin.refl _, r, rfl, rfl, h1, h3, hlo, hhi⟩
      rintro _ M9 ⟨st, rfl, e9, h1, h2, hlo, hhi⟩; replace e9 := e9.symm; subst e9
      obtain ⟨en, hen⟩ : ∃ en, en = mid + m - st := ⟨_, rfl⟩
      have wen : IntKind.i64.wrap (((mid + m : Nat) : Int) - (st : Int)) = ((en : Nat) : Int) := by rw [wri (by omega) (by omega)]; omega
      refine CW_seq (CW_region ?_)
      simp only [zZ, reduceIte, Nat.reduceLT, Int.reduceToNat, Int.reduceLE, Int.reduceEq, Int.reduceLT, Nat.reduceEqDiff, Nat.reduceAdd, zMn, wen]
      obtain ⟨X1, X2, hXX, hX1l⟩ : ∃ X1 X2, X = X1 ++ X2 ∧ X1.length = st - a := ⟨X.take (st - a), X.drop (st - a), (List.take_append_drop _ X).symm, by rw [List.length_take]; omega⟩
      obtain ⟨Y1, Y2, hYY, hY1l⟩ : ∃ Y1 Y2, Y = Y1 ++ Y2 ∧ Y1.length = en - m := ⟨Y.take (en - m), Y.drop (en - m), (List.take_append_drop _ Y).symm, by rw [List.length_take]; omega⟩
      have hXl : X.length = X1.length + X2.length := by rw [hXX, List.length_append]
      have hYl : Y.length = Y1.length + Y2.length := by rw [hYY, List.length_append]
      have hlt : ∀ x ∈ X2, ∀ y ∈ Y1, hid y < hid x := by
        intro x hx y hy
        obtain ⟨s, hs1, hs2⟩ := List.mem_iff_getElem.1 hx
        obtain ⟨t, ht1, ht2⟩ := List.mem_iff_getElem.1 hy
        have hst : st < r0 := by omega
        have gx : X[st - a + s]? = some x := by rw [hXX, List.getElem?_append_right (by omega), show st - a + s - X1.length = s by omega, List.getElem?_eq_getElem hs1, hs2]
        have gy : Y[t]? = some y := by rw [hYY, List.getElem?_append_left ht1, List.getElem?_eq_getElem ht1, ht2]
        obtain ⟨x0, hx0⟩ : ∃ x0, X[st - a]? = some x0 := ⟨_, List.getElem?_eq_getElem (by omega)⟩
        obtain ⟨y0, hy0⟩ : ∃ y0, Y[mid + m - 1 - st - m]? = some y0 := ⟨_, List.getElem?_eq_getElem (by omega)⟩
        have k1 := hhi hst x0 y0 hx0 hy0
        have k2 := rising_get hrx (show st - a ≤ st - a + s by omega) hx0 gx
        have k3 := rising_get hry (show t ≤ mid + m - 1 - st - m by omega) gy hy0
        unfold hid
        omega
      have hle : ∀ x ∈ X1, ∀ y ∈ Y2, hid x ≤ hid y := by
        intro x hx y hy
        obtain ⟨s, hs1, hs2⟩ := List.mem_iff_getElem.1 hx
        obtain ⟨t, ht1, ht2⟩ := List.mem_iff_getElem.1 hy
        have hst : s0 < st := by omega
        have gx : X[s]? = some x := by rw [hXX, List.getElem?_append_left hs1, List.getElem?_eq_getElem hs1, hs2]
        have gy : Y[en - m + t]? = some y := by rw [hYY, List.getElem?_append_right (by omega), show en - m + t - Y1.length = t by omega, List.getElem?_eq_getElem ht1, ht2]
        obtain ⟨x0, hx0⟩ : ∃ x0, X[st - 1 - a]? = some x0 := ⟨_, List.getElem?_eq_getElem (by omega)⟩
        obtain ⟨y0, hy0⟩ : ∃ y0, Y[mid + m - 1 - (st - 1) - m]? = some y0 := ⟨_, List.getElem?_eq_getElem (by omega)⟩
        have k1 := hlo hst x0 y0 hx0 hy0
        have k2 := rising_get hrx (show s ≤ st - 1 - a by omega) gx hx0
        have k3 := rising_get hry (show mid + m - 1 - (st - 1) - m ≤ en - m + t by omega) hy0 gy
        unfold hid
        omega
      subst hXX
      subst hYY
      have hx1r := Rising.parts hid hrx
      have hy1r := Rising.parts hid hry
      have hX1p := hx1r.1
      have hX2p := hx1r.2.1
      have hY1p := hy1r.1
      have hY2p := hy1r.2.1
      refine MW_mid (fun f M' => f = [(0, .slice (some ⟨g, 0, none⟩) n c), (1, .int .i64 (a : Nat)), (3, .int .i64 (b : Nat)), (4, .func (.func 42) #[] #[]), (18, .int .i64 (mid : Nat)), (20, .int .i64 (st : Nat)), (24, .int .i64 (en : Nat))] ∧ HdrsIn M' g (A ++ X1 ++ Y1 ++ (X2 ++ Y2 ++ B)) ∧ Only [g] M M' ∧ M'.size = M.size) ?_ ?_
      · refine CW_seq (CW_region ?_)
        by_cases hboth : st < m ∧ m < en
        · have q1 : decide ((st : Int) < (m : Int)) = true := decide_eq_true (by omega)
          have q2 : decide ((m : Int) < (en : Int)) = true := decide_eq_true (by omega)
          simp only [zZ, reduceIte, Nat.reduceLT, Int.reduceToNat, Int.reduceLE, Int.reduceEq, Int.reduceLT, Nat.reduceEqDiff, Nat.reduceAdd, zMn, q1, q2]
          refine CW_cond true (by rfl) (fun _ => CW_region ?_) (fun h => by cases h)
          simp only [zZ, reduceIte, Nat.reduceLT, Int.reduceToNat, Int.reduceLE, Int.reduceEq, Int.reduceLT, Nat.reduceEqDiff, Nat.reduceAdd, zMn]
          refine ⟨by kernel_rfl, _, rotate_spec g n c M (A ++ X1) X2 Y1 (Y2 ++ B) st m en (by simpa using hg) (by simpa using hn) hn2 (by rw [List.length_append]; omega) (by omega) (by omega) (by omega) (by omega), ?_⟩
          rintro _ M2 ⟨rfl, hg2, ho2, hs2⟩
          simp only [zZ, reduceIte, Nat.reduceLT, Int.reduceToNat, Int.reduceLE, Int.reduceEq, Int.reduceLT, Nat.reduceEqDiff, Nat.reduceAdd, zMn]
          refine ⟨[0, 1, 3, 4, 18, 20, 24], ?_⟩
          simp only [zZ, reduceIte, Nat.reduceLT, Int.reduceToNat, Int.reduceLE, Int.reduceEq, Int.reduceLT, Nat.reduceEqDiff, Nat.reduceAdd, keepF]
          exact ⟨M2, Thin.refl _, by simpa using hg2, ho2, hs2⟩
        · have hg3 : HdrsIn M g (A ++ X1 ++ Y1 ++ (X2 ++ Y2 ++ B)) := by
            by_cases hst : st < m
            · have : Y1 = [] := List.eq_nil_of_length_eq_zero (by omega)
              rw [this] at hg ⊢
              simpa using hg
            · have : X2 = [] := List.eq_nil_of_length_eq_zero (by omega)
              rw [this] at hg ⊢
              simpa using hg
          cases q1 : decide ((st : Int) < (m : Int)) <;> cases q2 : decide ((m : Int) < (en : Int))
          case' true.true => exact absurd ⟨by have := of_decide_eq_true q1; omega, by have := of_decide_eq_true q2; omega⟩ hboth
          all_goals
            simp only [zZ, reduceIte, Nat.reduceLT, Int.reduceToNat, Int.reduceLE, Int.reduceEq, Int.reduceLT, Nat.reduceEqDiff, Nat.reduceAdd, zMn, q1, q2]
            refine CW_cond false (by rfl) (fun h => by cases h) (fun _ => CW_skip ?_)
            refine ⟨[0, 1, 3, 4, 18, 20, 24], ?_⟩
            simp only [zZ, reduceIte, Nat.reduceLT, Int.reduceToNat, Int.reduceLE, Int.reduceEq, Int.reduceLT, Nat.reduceEqDiff, Nat.reduceAdd, keepF]
            exact ⟨M, Thin.refl _, hg3, Only.refl _ _, rfl⟩
      rintro _ M2 ⟨rfl, hg2, ho2, hs2⟩
      have hsm2 : Small (A ++ X1 ++ Y1 ++ (X2 ++ Y2 ++ B)) := hs.of fun z hz => by
        simp only [List.mem_append] at hz ⊢
        rcases hz with ((hz | hz) | hz) | ((hz | hz) | hz) <;> simp [hz]
      have hl2 : (A ++ X1 ++ Y1 ++ (X2 ++ Y2 ++ B)).length = n := by rw [← hn]; simp only [List.length_append]; omega
      refine MW_mid (fun f M' => f = [(0, .slice (some ⟨g, 0, none⟩) n c), (3, .int .i64 (b : Nat)), (4, .func (.func 42) #[] #[]), (18, .int .i64 (mid : Nat)), (24, .int .i64 (en : Nat))] ∧ (∃ R1, Stable hid (X1 ++ Y1) R1 ∧ HdrsIn M' g (A ++ R1 ++ (X2 ++ Y2 ++ B))) ∧ Only [g] M M' ∧ M'.size = M.size) ?_ ?_
      · refine CW_seq (CW_region ?_)
        by_cases hboth : a < st ∧ st < mid
        · have q1 : decide ((a : Int) < (st : Int)) = true := decide_eq_true (by omega)
          have q2 : decide ((st : Int) < (mid : Int)) = true := decide_eq_true (by omega)
          simp only [zZ, reduceIte, Nat.reduceLT, Int.reduceToNat, Int.reduceLE, Int.reduceEq, Int.reduceLT, Nat.reduceEqDiff, Nat.reduceAdd, zMn, q1, q2]
          refine CW_cond true (by rfl) (fun _ => CW_region ?_) (fun h => by cases h)
          simp only [zZ, reduceIte, Nat.reduceLT, Int.reduceToNat, Int.reduceLE, Int.reduceEq, Int.reduceLT, Nat.reduceEqDiff, Nat.reduceAdd, zMn]
          refine ⟨by kernel_rfl, _, ih M2 A X1 Y1 (X2 ++ Y2 ++ B) a st mid (by omega) hg2 hl2 hn2 hsm2 ha (by omega) (by omega) (by omega) (by omega) hX1p hY1p, ?_⟩
          rintro _ M3 ⟨rfl, hR, ho3, hs3⟩
          simp only [zZ, reduceIte, Nat.reduceLT, Int.reduceToNat, Int.reduceLE, Int.reduceEq, Int.reduceLT, Nat.reduceEqDiff, Nat.reduceAdd, zMn]
          refine ⟨[0, 3, 4, 18, 24], ?_⟩
          simp only [zZ, reduceIte, Nat.reduceLT, Int.reduceToNat, Int.reduceLE, Int.reduceEq, Int.reduceLT, Nat.reduceEqDiff, Nat.reduceAdd, keepF]
          exact ⟨M3, Thin.refl _, hR, ho2.trans ho3, by omega⟩
        · have hR : ∃ R1, Stable hid (X1 ++ Y1) R1 ∧ HdrsIn M2 g (A ++ R1 ++ (X2 ++ Y2 ++ B)) := by
            refine ⟨X1 ++ Y1, Stable.refl _ ?_, by simpa using hg2⟩
            by_cases hst : a < st
            · have : Y1 = [] := List.eq_nil_of_length_eq_zero (by omega)
              rw [this, List.append_nil]; exact hX1p
            · have : X1 = [] := List.eq_nil_of_length_eq_zero (by omega)
              rw [this, List.nil_append]; exact hY1p
          cases q1 : decide ((a : Int) < (st : Int)) <;> cases q2 : decide ((st : Int) < (mid : Int))
          case' true.true => exact absurd ⟨by have := of_decide_eq_true q1; omega, by have := of_decide_eq_true q2; omega⟩ hboth
          all_goals
            simp only [zZ, reduceIte, Nat.reduceLT, Int.reduceToNat, Int.reduceLE, Int.reduceEq, Int.reduceLT, Nat.reduceEqDiff, Nat.reduceAdd, zMn, q1, q2]
            refine CW_cond false (by rfl) (fun h => by cases h) (fun _ => CW_skip ?_)
            refine ⟨[0, 3, 4, 18, 24], ?_⟩
            simp only [zZ, reduceIte, Nat.reduceLT, Int.reduceToNat, Int.reduceLE, Int.reduceEq, Int.reduceLT, Nat.reduceEqDiff, Nat.reduceAdd, keepF]
            exact ⟨M2, Thin.refl _, hR, ho2, hs2⟩
      clear hg2 hs2 ho2 M2 hsm2 hl2
      rintro _ M2 ⟨rfl, ⟨R1, hst1, hg2⟩, ho2, hs2⟩
      have hR1l := hst1.len
      rw [List.length_append] at hR1l
      have hsm2 : Small (A ++ R1 ++ X2 ++ Y2 ++ B) := hs.of fun z hz => by
        simp only [List.mem_append, hst1.mem] at hz ⊢
        rcases hz with (((hz | (hz | hz)) | hz) | hz) | hz <;> simp [hz]
      have hl2 : (A ++ R1 ++ X2 ++ Y2 ++ B).length = n := by rw [← hn]; simp only [List.length_append]; omega
      refine CW_seq (CW_region ?_)
      by_cases hboth : mid < en ∧ en < b
      · have q1 : decide ((mid : Int) < (en : Int)) = true := decide_eq_true (by omega)
        have q2 : decide ((en : Int) < (b : Int)) = true := decide_eq_true (by omega)
        simp only [zZ, reduceIte, Nat.reduceLT, Int.reduceToNat, Int.reduceLE, Int.reduceEq, Int.reduceLT, Nat.reduceEqDiff, Nat.reduceAdd, zMn, q1, q2]
        refine CW_cond true (by rfl) (fun _ => CW_region ?_) (fun h => by cases h)
        simp only [zZ, reduceIte, Nat.reduceLT, Int.reduceToNat, Int.reduceLE, Int.reduceEq, Int.reduceLT, Nat.reduceEqDiff, Nat.reduceAdd, zMn]
        refine ⟨by kernel_rfl, _, ih M2 (A ++ R1) X2 Y2 B mid en b (by omega) (by simpa using hg2) hl2 hn2 hsm2 (by rw [List.length_append]; omega) (by omega) (by omega) (by omega) (by omega) hX2p hY2p, ?_⟩
        rintro _ M3 ⟨rfl, ⟨R2, hst2, hg3⟩, ho3, hs3⟩
        simp only [zZ, reduceIte, Nat.reduceLT, Int.reduceToNat, Int.reduceLE, Int.reduceEq, Int.reduceLT, Nat.reduceEqDiff, Nat.reduceAdd, zMn, mEnd, sAnswer, sAnswer.sRes]
        exact ⟨M3, Thin.refl _, ⟨R1 ++ R2, merge_step hid hrx hry hlt hle hst1 hst2, by simpa using hg3⟩, ho2.trans ho3, by omega⟩
      · have hR2 : Stable hid (X2 ++ Y2) (X2 ++ Y2) := by
          refine Stable.refl _ ?_
          by_cases hst : mid < en
          · have : Y2 = [] := List.eq_nil_of_length_eq_zero (by omega)
            rw [this, List.append_nil]; exact hX2p
          · have : X2 = [] := List.eq_nil_of_length_eq_zero (by omega)
            rw [this, List.nil_append]; exact hY2p
        have fin : ∃ R, Stable hid (X1 ++ X2 ++ (Y1 ++ Y2)) R ∧ HdrsIn M2 g (A ++ R ++ B) := ⟨R1 ++ (X2 ++ Y2), merge_step hid hrx hry hlt hle hst1 hR2, by simpa using hg2⟩
        cases q1 : decide ((mid : Int) < (en : Int)) <;> cases q2 : decide ((en : Int) < (b : Int))
        case' true.true => exact absurd ⟨by have := of_decide_eq_true q1; omega, by have := of_decide_eq_true q2; omega⟩ hboth
        all_goals
          simp only [zZ, reduceIte, Nat.reduceLT, Int.reduceToNat, Int.reduceLE, Int.reduceEq, Int.reduceLT, Nat.reduceEqDiff, Nat.reduceAdd, zMn, q1, q2]
          refine CW_cond false (by rfl) (fun h => by cases h) (fun _ => CW_skip ?_)
          simp only [zZ, reduceIte, Nat.reduceLT, Int.reduceToNat, Int.reduceLE, Int.reduceEq, Int.reduceLT, Nat.reduceEqDiff, Nat.reduceAdd, zMn, mEnd, sAnswer, sAnswer.sRes]
          exact ⟨M2, Thin.refl _, fin, ho2, hs2⟩
end Go.Proofs.YtabffcplbjaklaaGreatDoor
namespace Go.Proofs.YtabffcplbjaklaaGreatDoor
open Go.RowKit Abs Stab
theorem cut3 (D : List Header) (a s : Nat) : D = D.take a ++ (D.drop a).take s ++ D.drop (a + s) := by
  rw [← List.drop_drop, List.append_assoc, List.take_append_drop, List.take_append_drop]
theorem cut4 (D : List Header) (a s u : Nat) : D = D.take a ++ (D.drop a).take s ++ (D.drop (a + s)).take u ++ D.drop (a + s + u) := by
  have e1 := cut3 D a s
  have e2 := cut3 (D.drop (a + s)) 0 u
  rw [List.take_zero, List.nil_append, List.drop_zero, Nat.zero_add, List.drop_drop] at e2
  conv => lhs; rw [e1, e2]
  simp only [List.append_assoc]
set_option maxRecDepth 100000 in
set_option maxHeartbeats 4000000 in
theorem stable_spec (g n c : Nat) (M : Mem) (L : List Header) (hg : HdrsIn M g L) (hn : L.length = n) (hn2 : n ≤ 100000) (hs : Small L) :
    Abs.Spec Tryz.prog 64 [.slice (some ⟨g, 0, none⟩) n c, .int .i64 (n : Nat), cmpV] M
      fun u M' => u = .tuple #[] ∧ (∃ R, Stable hid L R ∧ HdrsIn M' g R) ∧ Only [g] M M' ∧ M'.size = M.size := by
  unfold cmpV
  refine Abs.Spec.walkM Tryz.func64 (by rfl) _ Tryz.results64 _ Tryz.ntmps64 (by simp) ?_
  intro hc hx K
  refine CW_seq (CW_region ?_)
  simp only [zZ, reduceIte, Nat.reduceLT, Int.reduceToNat, Int.reduceLE, Int.reduceEq, Int.reduceLT, Nat.reduceEqDiff, Nat.reduceAdd, zMn]
  refine CW_seq (CW_region ?_)
  simp only [zZ, reduceIte, Nat.reduceLT, Int.reduceToNat, Int.reduceLE, Int.reduceEq, Int.reduceLT, Nat.reduceEqDiff, Nat.reduceAdd, zMn]
  refine MW_mid (fun f M' => ∃ (a t : Nat) (D : List Header), f = [(0, .slice (some ⟨g, 0, none⟩) n c), (1, .int .i64 (n : Nat)), (2, .func (.func 42) #[] #[]), (6, .int .i64 20), (7, .int .i64 (a : Nat))] ∧ a = t * 20 ∧ a ≤ n ∧ n < a + 20 ∧ Firsts hid 20 t L D ∧ HdrsIn M' g D ∧ Small D ∧ Only [g] M M' ∧ M'.size = M.size) ?_ ?_
  · refine CW_block (MW_loop (fun jj f M' => ∃ (a t : Nat) (D : List Header), jj = n - a ∧ f = [(0, .slice (some ⟨g, 0, none⟩) n c), (1, .int .i64 (n : Nat)), (2, .func (.func 42) #[] #[]), (6, .int .i64 20), (7, .int .i64 (a : Nat)), (8, .int .i64 ((a + 20 : Nat) : Int))] ∧ a = t * 20 ∧ a ≤ n ∧ Firsts hid 20 t L D ∧ HdrsIn M' g D ∧ Small D ∧ Only [g] M M' ∧ M'.size = M.size) n ?_ ?_)
    · refine ⟨[0, 1, 2, 6, 7, 8], ?_⟩
      simp only [zZ, reduceIte, Nat.reduceLT, Int.reduceToNat, Int.reduceLE, Int.reduceEq, Int.reduceLT, Nat.reduceEqDiff, Nat.reduceAdd, keepF]
      exact ⟨M, Thin.refl _, 0, 0, L, rfl, rfl, rfl, by omega, Firsts.start hid 20 L, hg, hs, Only.refl _ _, rfl⟩
    · rintro jj f M' ⟨a, t, D, rfl, rfl, ha, han, hF, hg', hs', ho, hsz⟩
      have hDl : D.length = n := by rw [hF.len, hn]
      refine CW_seq (CW_seq (CW_region ?_))
      simp only [zZ, reduceIte, Nat.reduceLT, Int.reduceToNat, Int.reduceLE, Int.reduceEq, Int.reduceLT, Nat.reduceEqDiff, Nat.reduceAdd, zMn]
      refine CW_cond (decide (((a + 20 : Nat) : Int) ≤ (n : Int))) (by rfl) (fun h => CW_skip ?_) (fun h => CW_exit ?_)
      · have h := of_decide_eq_true h
        have e3 := cut3 D a 20
        obtain ⟨A, hA⟩ : ∃ A, A = D.take a := ⟨_, rfl⟩
        obtain ⟨X, hX⟩ : ∃ X, X = (D.drop a).take 20 := ⟨_, rfl⟩
        obtain ⟨B, hB⟩ : ∃ B, B = D.drop (a + 20) := ⟨_, rfl⟩
        have hAl : A.length = a := by rw [hA, List.length_take]; omega
        have hXl : X.length = 20 := by rw [hX, List.length_take, List.length_drop]; omega
        rw [← hA, ← hX, ← hB] at e3
        rw [e3] at hg' hDl hs' hF
        have sp := ins_spec g n c M' A X B hg' hDl (by omega) hs'
        rw [hXl, hAl] at sp
        have w1 : IntKind.i64.wrap (((a + 20 : Nat) : Int) + 20) = ((a + 20 + 20 : Nat) : Int) := by rw [wri (by omega) (by omega)]; omega
        simp only [zZ, reduceIte, Nat.reduceLT, Int.reduceToNat, Int.reduceLE, Int.reduceEq, Int.reduceLT, Nat.reduceEqDiff, Nat.reduceAdd]
        refine CW_block (CW_seq (CW_region ?_))
        simp only [zZ, reduceIte, Nat.reduceLT, Int.reduceToNat, Int.reduceLE, Int.reduceEq, Int.reduceLT, Nat.reduceEqDiff, Nat.reduceAdd, zMn]
        refine ⟨by kernel_rfl, _, sp, ?_⟩
        rintro _ M2 ⟨rfl, ⟨R, hst, hg2⟩, ho2, hs2⟩
        simp only [zZ, reduceIte, Nat.reduceLT, Int.reduceToNat, Int.reduceLE, Int.reduceEq, Int.reduceLT, Nat.reduceEqDiff, Nat.reduceAdd, zMn]
        refine CW_seq (CW_region ?_)
        simp only [zZ, reduceIte, Nat.reduceLT, Int.reduceToNat, Int.reduceLE, Int.reduceEq, Int.reduceLT, Nat.reduceEqDiff, Nat.reduceAdd, zMn]
        refine CW_region ?_
        simp only [zZ, reduceIte, Nat.reduceLT, Int.reduceToNat, Int.reduceLE, Int.reduceEq, Int.reduceLT, Nat.reduceEqDiff, Nat.reduceAdd, zMn, w1]
        refine ⟨[0, 1, 2, 6, 7, 8], ?_⟩
        simp only [zZ, reduceIte, Nat.reduceLT, Int.reduceToNat, Int.reduceLE, Int.reduceEq, Int.reduceLT, Nat.reduceEqDiff, Nat.reduceAdd, keepF]
        refine ⟨M2, Thin.refl _, n - (a + 20), ⟨a + 20, t + 1, A ++ R ++ B, rfl, rfl, by omega, by omega, hF.step hid (by rw [hAl, ha]) (.inl hXl) hst, hg2, hs'.of fun z hz => ?_, ho.trans ho2, by omega⟩, by omega⟩
        simp only [List.mem_append, hst.mem] at hz ⊢
        exact hz
      · have h := of_decide_eq_false h
        refine ⟨[0, 1, 2, 6, 7], ?_⟩
        simp only [zZ, reduceIte, Nat.reduceLT, Int.reduceToNat, Int.reduceLE, Int.reduceEq, Int.reduceLT, Nat.reduceEqDiff, Nat.reduceAdd, keepF]
        exact ⟨M', Thin.refl _, a, t, D, rfl, ha, han, by omega, hF, hg', hs', ho, hsz⟩
  rintro _ M1 ⟨a, t, D, rfl, ha, han, hna, hF, hg', hs', ho, hsz⟩
  have hDl : D.length = n := by rw [hF.len, hn]
  have e3 := cut3 D a (n - a)
  obtain ⟨A, hA⟩ : ∃ A, A = D.take a := ⟨_, rfl⟩
  obtain ⟨X, hX⟩ : ∃ X, X = (D.drop a).take (n - a) := ⟨_, rfl⟩
  have hAl : A.length = a := by rw [hA, List.length_take]; omega
  have hXl : X.length = n - a := by rw [hX, List.length_take, List.length_drop]; omega
  rw [← hA, ← hX, List.drop_eq_nil_of_le (show D.length ≤ a + (n - a) by omega)] at e3
  rw [e3] at hg' hDl hs' hF
  have sp := ins_spec g n c M1 A X [] hg' hDl (by omega) hs'
  rw [hXl, hAl, show a + (n - a) = n by omega] at sp
  refine CW_seq (CW_region ?_)
  simp only [zZ, reduceIte, Nat.reduceLT, Int.reduceToNat, Int.reduceLE, Int.reduceEq, Int.reduceLT, Nat.reduceEqDiff, Nat.reduceAdd, zMn]
  refine ⟨by kernel_rfl, _, sp, ?_⟩
  rintro _ M2 ⟨rfl, ⟨R, hst, hg2⟩, ho2, hs2⟩
  have hF2 := hF.step hid (by rw [hAl, ha]) (.inr ⟨by omega, rfl⟩) hst
  have hB2 := hF2.end hid (by rw [hn, Nat.add_mul]; omega)
  have hl2 := hF2.len
  have hsm2 : Small (A ++ R ++ []) := hs'.of fun z hz => by
    simp only [List.mem_append, hst.mem] at hz ⊢
    exact hz
  obtain ⟨D2, hD2⟩ : ∃ D2, D2 = A ++ R ++ [] := ⟨_, rfl⟩
  rw [← hD2] at hg2 hB2 hl2 hsm2
  have ho3 := ho.trans ho2
  have hs3 : M2.size = M.size := by omega
  clear hF2 hst hF hg' hs' hDl e3 hA hX hAl hXl hD2 ho2 hs2 sp ho hsz ha han hna
  simp only [zZ, reduceIte, Nat.reduceLT, Int.reduceToNat, Int.reduceLE, Int.reduceEq, Int.reduceLT, Nat.reduceEqDiff, Nat.reduceAdd, zMn]
  refine CW_block (MW_loop (fun jj f M' => ∃ (s : Nat) (D : List Header), jj = n - s ∧ f = [(0, .slice (some ⟨g, 0, none⟩) n c), (1, .int .i64 (n : Nat)), (2, .func (.func 42) #[] #[]), (6, .int .i64 (s : Nat))] ∧ 0 < s ∧ Blocks hid s L D ∧ D.length = L.length ∧ HdrsIn M' g D ∧ Small D ∧ Only [g] M M' ∧ M'.size = M.size) (n - 20) ?_ ?_)
  · refine ⟨[0, 1, 2, 6], ?_⟩
    simp only [zZ, reduceIte, Nat.reduceLT, Int.reduceToNat, Int.reduceLE, Int.reduceEq, Int.reduceLT, Nat.reduceEqDiff, Nat.reduceAdd, keepF]
    exact ⟨M2, Thin.refl _, 20, D2, rfl, rfl, by omega, hB2, hl2, hg2, hsm2, ho3, hs3⟩
  · clear hg2 hB2 hl2 hsm2 ho3 hs3 D2 M2
    rintro jj f M2 ⟨s, D, rfl, rfl, hs0, hBl, hl, hg2, hsm, ho, hsz⟩
    refine CW_seq (CW_seq (CW_region ?_))
    simp only [zZ, reduceIte, Nat.reduceLT, Int.reduceToNat, Int.reduceLE, Int.reduceEq, Int.reduceLT, Nat.reduceEqDiff, Nat.reduceAdd, zMn]
    refine CW_cond (decide ((s : Int) < (n : Int))) (by rfl) (fun h => CW_skip ?_) (fun h => CW_exit ?_)
    · have h := of_decide_eq_true h
      simp only [zZ, reduceIte, Nat.reduceLT, Int.reduceToNat, Int.reduceLE, Int.reduceEq, Int.reduceLT, Nat.reduceEqDiff, Nat.reduceAdd]
      refine CW_block (CW_seq (CW_region ?_))
      have w1 : IntKind.i64.wrap (2 * (s : Int)) = ((2 * s : Nat) : Int) := by rw [wri (by omega) (by omega)]; omega
      simp only [zZ, reduceIte, Nat.reduceLT, Int.reduceToNat, Int.reduceLE, Int.reduceEq, Int.reduceLT, Nat.reduceEqDiff, Nat.reduceAdd, zMn, w1]
      refine MW_mid (fun f M' => ∃ (a t : Nat) (D : List Header), f = [(0, .slice (some ⟨g, 0, none⟩) n c), (1, .int .i64 (n : Nat)), (2, .func (.func 42) #[] #[]), (6, .int .i64 (s : Nat)), (7, .int .i64 (a : Nat))] ∧ a = t * (2 * s) ∧ a ≤ n ∧ n < a + 2 * s ∧ Half hid s t L D ∧ HdrsIn M' g D ∧ Small D ∧ Only [g] M M' ∧ M'.size = M.size) ?_ ?_
      · refine CW_block (MW_loop (fun jj f M' => ∃ (a t : Nat) (D : List Header), jj = n - a ∧ f = [(0, .slice (some ⟨g, 0, none⟩) n c), (1, .int .i64 (n : Nat)), (2, .func (.func 42) #[] #[]), (6, .int .i64 (s : Nat)), (7, .int .i64 (a : Nat)), (8, .int .i64 ((a + 2 * s : Nat) : Int))] ∧ a = t * (2 * s) ∧ a ≤ n ∧ Half hid s t L D ∧ HdrsIn M' g D ∧ Small D ∧ Only [g] M M' ∧ M'.size = M.size) n ?_ ?_)
        · refine ⟨[0, 1, 2, 6, 7, 8], ?_⟩
          simp only [zZ, reduceIte, Nat.reduceLT, Int.reduceToNat, Int.reduceLE, Int.reduceEq, Int.reduceLT, Nat.reduceEqDiff, Nat.reduceAdd, keepF]
          exact ⟨M2, Thin.refl _, 0, 0, D, rfl, by simp, by simp, by omega, Half.start hid hBl hl, hg2, hsm, ho, hsz⟩
        · clear hBl hl hg2 hsm ho hsz D M2
          rintro jj f M2 ⟨a, t, D, rfl, rfl, ha, han, hH, hg2, hsm, ho, hsz⟩
          have hDl : D.length = n := by rw [hH.len, hn]
          refine CW_seq (CW_seq (CW_region ?_))
          simp only [zZ, reduceIte, Nat.reduceLT, Int.reduceToNat, Int.reduceLE, Int.reduceEq, Int.reduceLT, Nat.reduceEqDiff, Nat.reduceAdd, zMn]
          refine CW_cond (decide (((a + 2 * s : Nat) : Int) ≤ (n : Int))) (by rfl) (fun h => CW_skip ?_) (fun h => CW_exit ?_)
          · have h := of_decide_eq_true h
            have hrx := (hH.rest (2 * t) (by omega)).rising
            have hry := (hH.rest (2 * t + 1) (by omega)).rising
            unfold seg at hrx hry
            have e2 : 2 * t * s = a := by rw [ha, ← Nat.mul_assoc, Nat.mul_comm t 2]
            rw [e2] at hrx
            rw [Nat.add_mul, e2, Nat.one_mul] at hry
            have e3 := cut4 D a s s
            obtain ⟨A, hA⟩ : ∃ A, A = D.take a := ⟨_, rfl⟩
            obtain ⟨X, hX⟩ : ∃ X, X = (D.drop a).take s := ⟨_, rfl⟩
            obtain ⟨Y, hY⟩ : ∃ Y, Y = (D.drop (a + s)).take s := ⟨_, rfl⟩
            obtain ⟨B, hB⟩ : ∃ B, B = D.drop (a + s + s) := ⟨_, rfl⟩
            have hAl : A.length = a := by rw [hA, List.length_take]; omega
            have hXl : X.length = s := by rw [hX, List.length_take, List.length_drop]; omega
            have hYl : Y.length = s := by rw [hY, List.length_take, List.length_drop]; omega
            rw [← hX] at hrx
            rw [← hY] at hry
            rw [← hA, ← hX, ← hY, ← hB] at e3
            rw [e3] at hg2 hDl hsm hH
            have sp := sym_spec g n c (X.length + Y.length) M2 A X Y B a (a + s) (a + 2 * s) (Nat.le_refl _) hg2 hDl (by omega) hsm hAl (by omega) (by omega) (by omega) (by omega) hrx hry
            have w2 : IntKind.i64.wrap ((a : Int) + (s : Int)) = ((a + s : Nat) : Int) := by rw [wri (by omega) (by omega)]; omega
            have w3 : IntKind.i64.wrap (((a + 2 * s : Nat) : Int) + ((2 * s : Nat) : Int)) = ((a + 2 * s + 2 * s : Nat) : Int) := by rw [wri (by omega) (by omega)]; omega
            simp only [zZ, reduceIte, Nat.reduceLT, Int.reduceToNat, Int.reduceLE, Int.reduceEq, Int.reduceLT, Nat.reduceEqDiff, Nat.reduceAdd]
            refine CW_block (CW_seq (CW_region ?_))
            simp only [zZ, reduceIte, Nat.reduceLT, Int.reduceToNat, Int.reduceLE, Int.reduceEq, Int.reduceLT, Nat.reduceEqDiff, Nat.reduceAdd, zMn, w2]
            refine ⟨by kernel_rfl, _, sp, ?_⟩
            rintro _ M3 ⟨rfl, ⟨R, hst, hg3⟩, ho3, hs3⟩
            simp only [zZ, reduceIte, Nat.reduceLT, Int.reduceToNat, Int.reduceLE, Int.reduceEq, Int.reduceLT, Nat.reduceEqDiff, Nat.reduceAdd, zMn]
            refine CW_seq (CW_region ?_)
            simp only [zZ, reduceIte, Nat.reduceLT, Int.reduceToNat, Int.reduceLE, Int.reduceEq, Int.reduceLT, Nat.reduceEqDiff, Nat.reduceAdd, zMn]
            refine CW_region ?_
            simp only [zZ, reduceIte, Nat.reduceLT, Int.reduceToNat, Int.reduceLE, Int.reduceEq, Int.reduceLT, Nat.reduceEqDiff, Nat.reduceAdd, zMn, w1, w3]
            refine ⟨[0, 1, 2, 6, 7, 8], ?_⟩
            simp only [zZ, reduceIte, Nat.reduceLT, Int.reduceToNat, Int.reduceLE, Int.reduceEq, Int.reduceLT, Nat.reduceEqDiff, Nat.reduceAdd, keepF]
            refine ⟨M3, Thin.refl _, n - (a + 2 * s), ⟨a + 2 * s, t + 1, A ++ R ++ B, rfl, rfl, by rw [ha, Nat.add_mul, Nat.one_mul], by omega, Half.step hid (x := X) (y := Y) (by simpa using hH) (by rw [hAl, ha]) hXl (.inl hYl) hst, hg3, hsm.of fun z hz => ?_, ho.trans ho3, by omega⟩, by omega⟩
            simp only [List.mem_append, hst.mem] at hz ⊢
            rcases hz with (hz | (hz | hz)) | hz <;> simp [hz]
          · have h := of_decide_eq_false h
            refine ⟨[0, 1, 2, 6, 7], ?_⟩
            simp only [zZ, reduceIte, Nat.reduceLT, Int.reduceToNat, Int.reduceLE, Int.reduceEq, Int.reduceLT, Nat.reduceEqDiff, Nat.reduceAdd, keepF]
            exact ⟨M2, Thin.refl _, a, t, D, rfl, ha, han, by omega, hH, hg2, hsm, ho, hsz⟩
      clear hBl hl hg2 hsm ho hsz D M2
      rintro _ M2 ⟨a, t, D, rfl, ha, han, hna, hH, hg2, hsm, ho, hsz⟩
      have hDl : D.length = n := by rw [hH.len, hn]
      have w2 : IntKind.i64.wrap ((a : Int) + (s : Int)) = ((a + s : Nat) : Int) := by rw [wri (by omega) (by omega)]; omega
      refine MW_mid (fun f M' => ∃ D : List Header, f = [(0, .slice (some ⟨g, 0, none⟩) n c), (1, .int .i64 (n : Nat)), (2, .func (.func 42) #[] #[]), (6, .int .i64 (s : Nat))] ∧ Blocks hid (2 * s) L D ∧ D.length = L.length ∧ HdrsIn M' g D ∧ Small D ∧ Only [g] M M' ∧ M'.size = M.size) ?_ ?_
      · refine CW_seq (CW_region ?_)
        simp only [zZ, reduceIte, Nat.reduceLT, Int.reduceToNat, Int.reduceLE, Int.reduceEq, Int.reduceLT, Nat.reduceEqDiff, Nat.reduceAdd, zMn, w2]
        refine CW_seq (CW_region ?_)
        simp only [zZ, reduceIte, Nat.reduceLT, Int.reduceToNat, Int.reduceLE, Int.reduceEq, Int.reduceLT, Nat.reduceEqDiff, Nat.reduceAdd, zMn]
        refine CW_cond (decide (((a + s : Nat) : Int) < (n : Int))) (by rfl) (fun h => CW_region ?_) (fun h => CW_skip ?_)
        · have h := of_decide_eq_true h
          have hrx := (hH.rest (2 * t) (by omega)).rising
          have hry := (hH.rest (2 * t + 1) (by omega)).rising
          unfold seg at hrx hry
          have e2 : 2 * t * s = a := by rw [ha, ← Nat.mul_assoc, Nat.mul_comm t 2]
          rw [e2] at hrx
          rw [Nat.add_mul, e2, Nat.one_mul] at hry
          have e3 := cut4 D a s s
          obtain ⟨A, hA⟩ : ∃ A, A = D.take a := ⟨_, rfl⟩
          obtain ⟨X, hX⟩ : ∃ X, X = (D.drop a).take s := ⟨_, rfl⟩
          obtain ⟨Y, hY⟩ : ∃ Y, Y = (D.drop (a + s)).take s := ⟨_, rfl⟩
          have hAl : A.length = a := by rw [hA, List.length_take]; omega
          have hXl : X.length = s := by rw [hX, List.length_take, List.length_drop]; omega
          have hYl : Y.length = n - a - s := by rw [hY, List.length_take, List.length_drop]; omega
          rw [← hX] at hrx
          rw [← hY] at hry
          rw [← hA, ← hX, ← hY, List.drop_eq_nil_of_le (show D.length ≤ a + s + s by omega)] at e3
          rw [e3] at hg2 hDl hsm hH
          have sp := sym_spec g n c (X.length + Y.length) M2 A X Y [] a (a + s) n (Nat.le_refl _) hg2 hDl (by omega) hsm hAl (by omega) (by omega) (by omega) (by omega) hrx hry
          simp only [zZ, reduceIte, Nat.reduceLT, Int.reduceToNat, Int.reduceLE, Int.reduceEq, Int.reduceLT, Nat.reduceEqDiff, Nat.reduceAdd, zMn]
          refine ⟨by kernel_rfl, _, sp, ?_⟩
          rintro _ M3 ⟨rfl, ⟨R, hst, hg3⟩, ho3, hs3⟩
          simp only [zZ, reduceIte, Nat.reduceLT, Int.reduceToNat, Int.reduceLE, Int.reduceEq, Int.reduceLT, Nat.reduceEqDiff, Nat.reduceAdd, zMn]
          have hH2 : Half hid s (t + 1) L (A ++ R ++ []) := Half.step hid (x := X) (y := Y) (by simpa using hH) (by rw [hAl, ha]) hXl (.inr ⟨by omega, rfl⟩) hst
          refine ⟨[0, 1, 2, 6], ?_⟩
          simp only [zZ, reduceIte, Nat.reduceLT, Int.reduceToNat, Int.reduceLE, Int.reduceEq, Int.reduceLT, Nat.reduceEqDiff, Nat.reduceAdd, keepF]
          refine ⟨M3, Thin.refl _, A ++ R ++ [], hH2.end hid (by rw [hn, Nat.add_mul, ← ha]; omega), hH2.len, hg3, hsm.of fun z hz => ?_, ho.trans ho3, by omega⟩
          simp only [List.mem_append, hst.mem] at hz ⊢
          rcases hz with (hz | (hz | hz)) | hz <;> simp [hz]
        · have h := of_decide_eq_false h
          refine ⟨[0, 1, 2, 6], ?_⟩
          simp only [zZ, reduceIte, Nat.reduceLT, Int.reduceToNat, Int.reduceLE, Int.reduceEq, Int.reduceLT, Nat.reduceEqDiff, Nat.reduceAdd, keepF]
          exact ⟨M2, Thin.refl _, D, hH.end hid (by rw [hn, ← ha]; omega), hH.len, hg2, hsm, ho, hsz⟩
      · rintro _ M3 ⟨D, rfl, hB, hl, hg2, hsm, ho, hsz⟩
        have w1 : IntKind.i64.wrap ((s : Int) * 2) = ((2 * s : Nat) : Int) := by rw [wri (by omega) (by omega)]; omega
        refine CW_region ?_
        simp only [zZ, reduceIte, Nat.reduceLT, Int.reduceToNat, Int.reduceLE, Int.reduceEq, Int.reduceLT, Nat.reduceEqDiff, Nat.reduceAdd, zMn, w1]
        refine ⟨[0, 1, 2, 6], ?_⟩
        simp only [zZ, reduceIte, Nat.reduceLT, Int.reduceToNat, Int.reduceLE, Int.reduceEq, Int.reduceLT, Nat.reduceEqDiff, Nat.reduceAdd, keepF]
        exact ⟨M3, Thin.refl _, n - 2 * s, ⟨2 * s, D, rfl, rfl, by omega, hB, hl, hg2, hsm, ho, hsz⟩, by omega⟩
    · have h := of_decide_eq_false h
      simp only [zZ, reduceIte, Nat.reduceLT, Int.reduceToNat, Int.reduceLE, Int.reduceEq, Int.reduceLT, Nat.reduceEqDiff, Nat.reduceAdd, zMn, mEnd, sAnswer, sAnswer.sRes]
      exact ⟨M2, Thin.refl _, ⟨D, hBl.all hid (by omega) hl, hg2⟩, ho, hsz⟩
set_option maxRecDepth 100000 in
theorem sort_spec (g n c : Nat) (M : Mem) (L : List Header) (hg : HdrsIn M g L) (hn : L.length = n) (hn2 : n ≤ 100000) (hs : Small L) :
    Abs.Spec Tryz.prog 41 [.slice (some ⟨g, 0, none⟩) n c, cmpV] M
      fun u M' => u = .tuple #[] ∧ (∃ R, Stable hid L R ∧ HdrsIn M' g R) ∧ Only [g] M M' ∧ M'.size = M.size := by
  have sp := stable_spec g n c M L hg hn hn2 hs
  unfold cmpV at sp ⊢
  refine Abs.Spec.walkM Tryz.func41 (by rfl) _ Tryz.results41 _ Tryz.ntmps41 (by simp) ?_
  intro hc hx K
  refine CW_region ?_
  simp only [zZ, reduceIte, Nat.reduceLT, Int.reduceToNat, Int.reduceLE, Int.reduceEq, Int.reduceLT, Nat.reduceEqDiff, Nat.reduceAdd, zMn]
  refine ⟨by kernel_rfl, _, sp, ?_⟩
  rintro _ M2 ⟨rfl, h1, h2, h3⟩
  simp only [zZ, reduceIte, Nat.reduceLT, Int.reduceToNat, Int.reduceLE, Int.reduceEq, Int.reduceLT, Nat.reduceEqDiff, Nat.reduceAdd, zMn, mEnd, sAnswer, sAnswer.sRes]
  exact ⟨M2, Thin.refl _, h1, h2, h3⟩
end Go.Proofs.YtabffcplbjaklaaGreatDoor
namespace Go.Proofs.YtabffcplbjaklaaGreatDoor
open Go.RowKit Abs
def mayH (h : Header) : Bool := !(decide (h.id < 1)) && !(decide (h.id > 4294967295)) && !((bsize h.salt : Int) != 16) && !((bsize h.root : Int) != 32) && !((bsize h.tag : Int) != 32) && !(decide (h.bytes < 1)) && !(decide (h.bytes > 49152)) && !(h.n != (h.bytes + 191) / 192) && !(decide (h.raw < 1)) && !(decide (h.raw > 134217728))
theorem quo192 (b : Int) (h0 : 0 ≤ b) (h1 : b ≤ 1000000) : IntKind.i64.wrap ((b + 191).tdiv 192) = (b + 191) / 192 := by
  rw [Int.tdiv_eq_ediv_of_nonneg (by omega), wri (by omega) (by omega)]
set_option maxRecDepth 100000 in
set_option maxHeartbeats 4000000 in
theorem hcheck_spec (h : Header) (m : Mem) : Abs.Spec Tryz.prog 43 [.agg h.cells.toArray] m fun u M => u = .int .i64 (if mayH h = true then 0 else 1) ∧ M = m := by
  refine Abs.Spec.walkB Tryz.func43 (by rfl) _ Tryz.results43 _ Tryz.ntmps43 (by simp) m [] (ext_nil m).symm 0 rfl (.inl rfl) ?_
  intro hc _
  have bx : nBox Tryz.prog 40 (.agg h.cells.toArray) = some (.cells false (aStride Tryz.prog 40) h.cells) := bx_Hdr _ rfl
  generalize aStride Tryz.prog 40 = s1 at bx
  have k0 : cellIn 0 (some (.cells false s1 h.cells)) = some (.int .i64 h.id) := rfl
  have k1 : cellIn 1 (some (.cells false s1 h.cells)) = some (.string h.salt) := rfl
  have k2 : cellIn 2 (some (.cells false s1 h.cells)) = some (.int .i64 h.n) := rfl
  have k3 : cellIn 3 (some (.cells false s1 h.cells)) = some (.int .i64 h.bytes) := rfl
  have k4 : cellIn 4 (some (.cells false s1 h.cells)) = some (.int .i64 h.raw) := rfl
  have k5 : cellIn 5 (some (.cells false s1 h.cells)) = some (.string h.root) := rfl
  have k6 : cellIn 6 (some (.cells false s1 h.cells)) = some (.string h.tag) := rfl
  obtain ⟨r, hr⟩ : ∃ r, r = mayH h := ⟨_, rfl⟩
  rw [← hr]
  unfold mayH at hr
  refine CW_seq (CW_region ?_)
  simp only [zZ, reduceIte, Nat.reduceLT, Int.reduceToNat, Int.reduceLE, Int.reduceEq, Int.reduceLT, Nat.reduceEqDiff, Nat.reduceAdd, zMn, bx]
  refine CW_seq (CW_block (CW_seq (CW_region ?_)))
  cases p1 : decide (h.id < 1)
  case true =>
    simp only [zZ, reduceIte, Nat.reduceLT, Int.reduceToNat, Int.reduceLE, Int.reduceEq, Int.reduceLT, Nat.reduceEqDiff, Nat.reduceAdd, zMn, k0, k1, k2, k3, k4, k5, k6, p1]
    obtain rfl : r = false := by rw [hr, p1]; simp
    refine CW_cond true (by rfl) (fun _ => CW_seq (CW_region ?_)) (fun h => by cases h)
    simp only [zZ, reduceIte, Nat.reduceLT, Int.reduceToNat, Int.reduceLE, Int.reduceEq, Int.reduceLT, Nat.reduceEqDiff, Nat.reduceAdd, zMn]
    refine CW_ret ?_
    simp only [zZ, reduceIte, Nat.reduceLT, Int.reduceToNat, Int.reduceLE, Int.reduceEq, Int.reduceLT, Nat.reduceEqDiff, Nat.reduceAdd, zMn, bEnd, sAnswer, sAnswer.sRes]
    exact told_flat rfl rfl
  cases p2 : decide (h.id > 4294967295)
  case true =>
    simp only [zZ, reduceIte, Nat.reduceLT, Int.reduceToNat, Int.reduceLE, Int.reduceEq, Int.reduceLT, Nat.reduceEqDiff, Nat.reduceAdd, zMn, k0, k1, k2, k3, k4, k5, k6, p1, p2]
    obtain rfl : r = false := by rw [hr, p2]; simp
    refine CW_cond true (by rfl) (fun _ => CW_seq (CW_region ?_)) (fun h => by cases h)
    simp only [zZ, reduceIte, Nat.reduceLT, Int.reduceToNat, Int.reduceLE, Int.reduceEq, Int.reduceLT, Nat.reduceEqDiff, Nat.reduceAdd, zMn]
    refine CW_ret ?_
    simp only [zZ, reduceIte, Nat.reduceLT, Int.reduceToNat, Int.reduceLE, Int.reduceEq, Int.reduceLT, Nat.reduceEqDiff, Nat.reduceAdd, zMn, bEnd, sAnswer, sAnswer.sRes]
    exact told_flat rfl rfl
  cases p3 : ((bsize h.salt : Int) != 16)
  case true =>
    simp only [zZ, reduceIte, Nat.reduceLT, Int.reduceToNat, Int.reduceLE, Int.reduceEq, Int.reduceLT, Nat.reduceEqDiff, Nat.reduceAdd, zMn, k0, k1, k2, k3, k4, k5, k6, p1, p2, p3]
    obtain rfl : r = false := by rw [hr, p3]; simp
    refine CW_cond true (by rfl) (fun _ => CW_seq (CW_region ?_)) (fun h => by cases h)
    simp only [zZ, reduceIte, Nat.reduceLT, Int.reduceToNat, Int.reduceLE, Int.reduceEq, Int.reduceLT, Nat.reduceEqDiff, Nat.reduceAdd, zMn]
    refine CW_ret ?_
    simp only [zZ, reduceIte, Nat.reduceLT, Int.reduceToNat, Int.reduceLE, Int.reduceEq, Int.reduceLT, Nat.reduceEqDiff, Nat.reduceAdd, zMn, bEnd, sAnswer, sAnswer.sRes]
    exact told_flat rfl rfl
  cases p4 : ((bsize h.root : Int) != 32)
  case true =>
    simp only [zZ, reduceIte, Nat.reduceLT, Int.reduceToNat, Int.reduceLE, Int.reduceEq, Int.reduceLT, Nat.reduceEqDiff, Nat.reduceAdd, zMn, k0, k1, k2, k3, k4, k5, k6, p1, p2, p3, p4]
    obtain rfl : r = false := by rw [hr, p4]; simp
    refine CW_cond true (by rfl) (fun _ => CW_seq (CW_region ?_)) (fun h => by cases h)
    simp only [zZ, reduceIte, Nat.reduceLT, Int.reduceToNat, Int.reduceLE, Int.reduceEq, Int.reduceLT, Nat.reduceEqDiff, Nat.reduceAdd, zMn]
    refine CW_ret ?_
    simp only [zZ, reduceIte, Nat.reduceLT, Int.reduceToNat, Int.reduceLE, Int.reduceEq, Int.reduceLT, Nat.reduceEqDiff, Nat.reduceAdd, zMn, bEnd, sAnswer, sAnswer.sRes]
    exact told_flat rfl rfl
  cases p5 : ((bsize h.tag : Int) != 32)
  case true =>
    simp only [zZ, reduceIte, Nat.reduceLT, Int.reduceToNat, Int.reduceLE, Int.reduceEq, Int.reduceLT, Nat.reduceEqDiff, Nat.reduceAdd, zMn, k0, k1, k2, k3, k4, k5, k6, p1, p2, p3, p4, p5]
    obtain rfl : r = false := by rw [hr, p5]; simp
    refine CW_cond true (by rfl) (fun _ => CW_seq (CW_region ?_)) (fun h => by cases h)
    simp only [zZ, reduceIte, Nat.reduceLT, Int.reduceToNat, Int.reduceLE, Int.reduceEq, Int.reduceLT, Nat.reduceEqDiff, Nat.reduceAdd, zMn]
    refine CW_ret ?_
    simp only [zZ, reduceIte, Nat.reduceLT, Int.reduceToNat, Int.reduceLE, Int.reduceEq, Int.reduceLT, Nat.reduceEqDiff, Nat.reduceAdd, zMn, bEnd, sAnswer, sAnswer.sRes]
    exact told_flat rfl rfl
  simp only [zZ, reduceIte, Nat.reduceLT, Int.reduceToNat, Int.reduceLE, Int.reduceEq, Int.reduceLT, Nat.reduceEqDiff, Nat.reduceAdd, zMn, k0, k1, k2, k3, k4, k5, k6, p1, p2, p3, p4, p5]
  refine CW_cond false (by rfl) (fun h => by cases h) (fun _ => CW_seq (CW_region ?_))
  cases d1 : decide (h.bytes < 1)
  case true =>
    simp only [zZ, reduceIte, Nat.reduceLT, Int.reduceToNat, Int.reduceLE, Int.reduceEq, Int.reduceLT, Nat.reduceEqDiff, Nat.reduceAdd, zMn, k0, k1, k2, k3, k4, k5, k6, d1]
    obtain rfl : r = false := by rw [hr, d1]; simp
    refine CW_cond true (by rfl) (fun _ => CW_seq (CW_region ?_)) (fun h => by cases h)
    simp only [zZ, reduceIte, Nat.reduceLT, Int.reduceToNat, Int.reduceLE, Int.reduceEq, Int.reduceLT, Nat.reduceEqDiff, Nat.reduceAdd, zMn]
    refine CW_ret ?_
    simp only [zZ, reduceIte, Nat.reduceLT, Int.reduceToNat, Int.reduceLE, Int.reduceEq, Int.reduceLT, Nat.reduceEqDiff, Nat.reduceAdd, zMn, bEnd, sAnswer, sAnswer.sRes]
    exact told_flat rfl rfl
  cases d2 : decide (h.bytes > 49152)
  case true =>
    simp only [zZ, reduceIte, Nat.reduceLT, Int.reduceToNat, Int.reduceLE, Int.reduceEq, Int.reduceLT, Nat.reduceEqDiff, Nat.reduceAdd, zMn, k0, k1, k2, k3, k4, k5, k6, d1, d2]
    obtain rfl : r = false := by rw [hr, d2]; simp
    refine CW_cond true (by rfl) (fun _ => CW_seq (CW_region ?_)) (fun h => by cases h)
    simp only [zZ, reduceIte, Nat.reduceLT, Int.reduceToNat, Int.reduceLE, Int.reduceEq, Int.reduceLT, Nat.reduceEqDiff, Nat.reduceAdd, zMn]
    refine CW_ret ?_
    simp only [zZ, reduceIte, Nat.reduceLT, Int.reduceToNat, Int.reduceLE, Int.reduceEq, Int.reduceLT, Nat.reduceEqDiff, Nat.reduceAdd, zMn, bEnd, sAnswer, sAnswer.sRes]
    exact told_flat rfl rfl
  have b1 := of_decide_eq_false d1
  have b2 := of_decide_eq_false d2
  have w1 : IntKind.i64.wrap (h.bytes + 192) = h.bytes + 192 := wri (by omega) (by omega)
  have w2 : IntKind.i64.wrap (h.bytes + 192 - 1) = h.bytes + 191 := by rw [wri (by omega) (by omega)]; omega
  have w3 := quo192 h.bytes (by omega) (by omega)
  cases d3 : (h.n != (h.bytes + 191) / 192)
  case true =>
    simp only [zZ, reduceIte, Nat.reduceLT, Int.reduceToNat, Int.reduceLE, Int.reduceEq, Int.reduceLT, Nat.reduceEqDiff, Nat.reduceAdd, zMn, k0, k1, k2, k3, k4, k5, k6, w1, w2, w3, d1, d2, d3]
    obtain rfl : r = false := by rw [hr, d3]; simp
    refine CW_cond true (by rfl) (fun _ => CW_seq (CW_region ?_)) (fun h => by cases h)
    simp only [zZ, reduceIte, Nat.reduceLT, Int.reduceToNat, Int.reduceLE, Int.reduceEq, Int.reduceLT, Nat.reduceEqDiff, Nat.reduceAdd, zMn]
    refine CW_ret ?_
    simp only [zZ, reduceIte, Nat.reduceLT, Int.reduceToNat, Int.reduceLE, Int.reduceEq, Int.reduceLT, Nat.reduceEqDiff, Nat.reduceAdd, zMn, bEnd, sAnswer, sAnswer.sRes]
    exact told_flat rfl rfl
  cases d4 : decide (h.raw < 1)
  case true =>
    simp only [zZ, reduceIte, Nat.reduceLT, Int.reduceToNat, Int.reduceLE, Int.reduceEq, Int.reduceLT, Nat.reduceEqDiff, Nat.reduceAdd, zMn, k0, k1, k2, k3, k4, k5, k6, w1, w2, w3, d1, d2, d3, d4]
    obtain rfl : r = false := by rw [hr, d4]; simp
    refine CW_cond true (by rfl) (fun _ => CW_seq (CW_region ?_)) (fun h => by cases h)
    simp only [zZ, reduceIte, Nat.reduceLT, Int.reduceToNat, Int.reduceLE, Int.reduceEq, Int.reduceLT, Nat.reduceEqDiff, Nat.reduceAdd, zMn]
    refine CW_ret ?_
    simp only [zZ, reduceIte, Nat.reduceLT, Int.reduceToNat, Int.reduceLE, Int.reduceEq, Int.reduceLT, Nat.reduceEqDiff, Nat.reduceAdd, zMn, bEnd, sAnswer, sAnswer.sRes]
    exact told_flat rfl rfl
  cases d5 : decide (h.raw > 134217728)
  case true =>
    simp only [zZ, reduceIte, Nat.reduceLT, Int.reduceToNat, Int.reduceLE, Int.reduceEq, Int.reduceLT, Nat.reduceEqDiff, Nat.reduceAdd, zMn, k0, k1, k2, k3, k4, k5, k6, w1, w2, w3, d1, d2, d3, d4, d5]
    obtain rfl : r = false := by rw [hr, d5]; simp
    refine CW_cond true (by rfl) (fun _ => CW_seq (CW_region ?_)) (fun h => by cases h)
    simp only [zZ, reduceIte, Nat.reduceLT, Int.reduceToNat, Int.reduceLE, Int.reduceEq, Int.reduceLT, Nat.reduceEqDiff, Nat.reduceAdd, zMn]
    refine CW_ret ?_
    simp only [zZ, reduceIte, Nat.reduceLT, Int.reduceToNat, Int.reduceLE, Int.reduceEq, Int.reduceLT, Nat.reduceEqDiff, Nat.reduceAdd, zMn, bEnd, sAnswer, sAnswer.sRes]
    exact told_flat rfl rfl
  obtain rfl : r = true := by rw [hr, p1, p2, p3, p4, p5, d1, d2, d3, d4, d5]; rfl
  simp only [zZ, reduceIte, Nat.reduceLT, Int.reduceToNat, Int.reduceLE, Int.reduceEq, Int.reduceLT, Nat.reduceEqDiff, Nat.reduceAdd, zMn, k0, k1, k2, k3, k4, k5, k6, w1, w2, w3, d1, d2, d3, d4, d5]
  refine CW_cond false (by rfl) (fun h => by cases h) (fun _ => CW_skip ?_)
  simp only [zZ, reduceIte, Nat.reduceLT, Int.reduceToNat, Int.reduceLE, Int.reduceEq, Int.reduceLT, Nat.reduceEqDiff, Nat.reduceAdd]
  refine CW_seq (CW_region ?_)
  simp only [zZ, reduceIte, Nat.reduceLT, Int.reduceToNat, Int.reduceLE, Int.reduceEq, Int.reduceLT, Nat.reduceEqDiff, Nat.reduceAdd, zMn]
  refine CW_ret ?_
  simp only [zZ, reduceIte, Nat.reduceLT, Int.reduceToNat, Int.reduceLE, Int.reduceEq, Int.reduceLT, Nat.reduceEqDiff, Nat.reduceAdd, zMn, bEnd, sAnswer, sAnswer.sRes]
  exact told_flat rfl rfl
end Go.Proofs.YtabffcplbjaklaaGreatDoor
namespace Go.Proofs.YtabffcplbjaklaaGreatDoor
open Go.RowKit Abs Stab
theorem new_hdr0 : nBuildSlice Tryz.prog 22 0 [] = some (.cells false 7 []) := by kernel_rfl
theorem hs_eql0 (cx : Bool) : aBin Tryz.prog .eql 22 cx (.slice none 0 0) (.slice none 0 0) = some (.bool true) := by cases cx <;> kernel_rfl
theorem hs_eql (cx : Bool) (a : Addr) (n c : Nat) : aBin Tryz.prog .eql 22 cx (.slice (some a) n c) (.slice none 0 0) = some (.bool false) := by cases cx <;> kernel_rfl
set_option maxRecDepth 100000 in
set_option maxHeartbeats 2000000 in
theorem clone_spec (K : Nat) (M : Mem) (V : Value) (L : List Header) (h : HdrsOwn K M V L) (hl : L.length ≤ 1000000) :
    Abs.Spec Tryz.prog 40 [V] M fun u M' => HdrsOwn M.size M' u L ∧ Only [] M M' ∧ M.size ≤ M'.size := by
  refine Abs.Spec.walkM Tryz.func40 (by rfl) _ Tryz.results40 _ Tryz.ntmps40 (by simp) ?_
  intro hc hx k
  refine CW_seq (CW_region ?_)
  simp only [zZ, reduceIte, Nat.reduceLT, Int.reduceToNat, Int.reduceLE, Int.reduceEq, Int.reduceLT, Nat.reduceEqDiff, Nat.reduceAdd, zMn]
  rcases h with ⟨rfl, rfl⟩ | ⟨h0, g, hgk, rfl, hg⟩
  · refine CW_seq (CW_seq (CW_region ?_))
    simp only [zZ, reduceIte, Nat.reduceLT, Int.reduceToNat, Int.reduceLE, Int.reduceEq, Int.reduceLT, Nat.reduceEqDiff, Nat.reduceAdd, zMn, hs_eql0]
    refine CW_cond true (by rfl) (fun _ => CW_seq (CW_region ?_)) (fun h => by cases h)
    simp only [zZ, reduceIte, Nat.reduceLT, Int.reduceToNat, Int.reduceLE, Int.reduceEq, Int.reduceLT, Nat.reduceEqDiff, Nat.reduceAdd, zMn]
    refine CW_ret ?_
    simp only [zZ, reduceIte, Nat.reduceLT, Int.reduceToNat, Int.reduceLE, Int.reduceEq, Int.reduceLT, Nat.reduceEqDiff, Nat.reduceAdd, zMn, mEnd, sAnswer, sAnswer.sRes]
    exact ⟨M, Thin.refl _, .inl ⟨rfl, rfl⟩, Only.refl _ _, Nat.le_refl _⟩
  · refine CW_seq (CW_seq (CW_region ?_))
    simp only [zZ, reduceIte, Nat.reduceLT, Int.reduceToNat, Int.reduceLE, Int.reduceEq, Int.reduceLT, Nat.reduceEqDiff, Nat.reduceAdd, zMn, hs_eql]
    refine CW_cond false (by rfl) (fun h => by cases h) (fun _ => CW_skip ?_)
    simp only [zZ, reduceIte, Nat.reduceLT, Int.reduceToNat, Int.reduceLE, Int.reduceEq, Int.reduceLT, Nat.reduceEqDiff, Nat.reduceAdd]
    have hgl := get_live hg
    have hpos := List.length_pos_iff.2 h0
    have hby := Hdr_bytes
    have hsrc := src_block (P := Tryz.prog) (tx := 22) (m := M.push (.cells false 7 [])) (c := L.length) (k := L.length) (N := 7) (news := L.flatMap Header.cells) (ro := false) (s := 7) Tryz.underlying22 (by rw [Mem.get_push_old hgl]; exact hg) (flatMap_len Header.cells 7 L fun x _ => hdr_len x)
    have ha := gapp (P := Tryz.prog) (N := 7) (k := L.length) (n := 0) (g := M.size) (cs := []) (news := L.flatMap Header.cells) Tryz.underlying22 inf_Hdr Hdr_zero sz_Hdr rfl (M.push (.cells false 7 [])) hsrc (by omega)
      (Mem.get_push_new M _) rfl (by rw [Nat.zero_add]; have := Nat.mul_le_mul hl hby; omega) (by omega)
    rw [Mem.size_push, Nat.zero_add, List.nil_append] at ha
    refine CW_seq (CW_region ?_)
    simp only [zZ, reduceIte, Nat.reduceLT, Int.reduceToNat, Int.reduceLE, Int.reduceEq, Int.reduceLT, Nat.reduceEqDiff, Nat.reduceAdd, zMn, new_hdr0, ha]
    refine CW_ret ?_
    simp only [zZ, reduceIte, Nat.reduceLT, Int.reduceToNat, Int.reduceLE, Int.reduceEq, Int.reduceLT, Nat.reduceEqDiff, Nat.reduceAdd, zMn, mEnd, sAnswer, sAnswer.sRes]
    refine ⟨_, Thin.refl _, .inr ⟨h0, M.size + 1, by omega, rfl, ?_⟩, fun b y _ hy => ?_, by simp only [Mem.size_push, Mem.size_set]; omega⟩
    · have := Mem.get_push_new ((M.push (.cells false 7 [])).set M.size none) (.cells false 7 (L.flatMap Header.cells))
      rw [Mem.size_set, Mem.size_push] at this
      exact this
    · have := get_live hy
      rw [Mem.get_push_old (by rw [Mem.size_set, Mem.size_push]; omega), Mem.get_set_ne (by omega), Mem.get_push_old this]; exact hy
end Go.Proofs.YtabffcplbjaklaaGreatDoor
namespace Go.Proofs.YtabffcplbjaklaaGreatDoor
open Go.RowKit Abs
theorem push_set (m : Mem) (x y : Blk) : (m.push x).set m.size (some y) = m.push y := by
  unfold Mem.push Mem.set Mem.size
  simp
end Go.Proofs.YtabffcplbjaklaaGreatDoor
namespace Go.Proofs.YtabffcplbjaklaaGreatDoor
open Go.RowKit Abs Stab
set_option maxRecDepth 100000 in
theorem ins_nil (M : Mem) : Abs.Spec Tryz.prog 96 [.slice none 0 0, .int .i64 0, .int .i64 0, cmpV] M fun u M' => u = .tuple #[] ∧ M' = M := by
  unfold cmpV
  refine Abs.Spec.walkM Tryz.func96 (by rfl) _ Tryz.results96 _ Tryz.ntmps96 (by simp) ?_
  intro hc hx k
  have w0 : IntKind.i64.wrap ((0 : Int) + 1) = 1 := by decide
  refine CW_seq (CW_region ?_)
  simp only [zZ, reduceIte, Nat.reduceLT, Int.reduceToNat, Int.reduceLE, Int.reduceEq, Int.reduceLT, Nat.reduceEqDiff, Nat.reduceAdd, zMn, w0]
  refine CW_block (MW_loop (fun j f M' => f = [(2, .int .i64 0), (8, .int .i64 1)] ∧ M' = M) 0 ?_ ?_)
  · refine ⟨[2, 8], ?_⟩
    simp only [zZ, reduceIte, Nat.reduceLT, Int.reduceToNat, Int.reduceLE, Int.reduceEq, Int.reduceLT, Nat.reduceEqDiff, Nat.reduceAdd, keepF]
    exact ⟨M, Thin.refl _, rfl⟩
  · rintro j f _ ⟨rfl, e9⟩; replace e9 := e9.symm; subst e9
    have q : decide ((1 : Int) < 0) = false := rfl
    refine CW_seq (CW_seq (CW_region ?_))
    simp only [zZ, reduceIte, Nat.reduceLT, Int.reduceToNat, Int.reduceLE, Int.reduceEq, Int.reduceLT, Nat.reduceEqDiff, Nat.reduceAdd, zMn, q]
    refine CW_cond false (by rfl) (fun h => by cases h) (fun _ => CW_exit ?_)
    simp only [zZ, reduceIte, Nat.reduceLT, Int.reduceToNat, Int.reduceLE, Int.reduceEq, Int.reduceLT, Nat.reduceEqDiff, Nat.reduceAdd, zMn, mEnd, sAnswer, sAnswer.sRes]
    exact ⟨M, Thin.refl _, rfl⟩
set_option maxRecDepth 100000 in
theorem stable_nil (M : Mem) : Abs.Spec Tryz.prog 64 [.slice none 0 0, .int .i64 0, cmpV] M fun u M' => u = .tuple #[] ∧ M' = M := by
  have hi := ins_nil M
  unfold cmpV at hi ⊢
  refine Abs.Spec.walkM Tryz.func64 (by rfl) _ Tryz.results64 _ Tryz.ntmps64 (by simp) ?_
  intro hc hx k
  refine CW_seq (CW_region ?_)
  simp only [zZ, reduceIte, Nat.reduceLT, Int.reduceToNat, Int.reduceLE, Int.reduceEq, Int.reduceLT, Nat.reduceEqDiff, Nat.reduceAdd, zMn]
  refine CW_seq (CW_region ?_)
  simp only [zZ, reduceIte, Nat.reduceLT, Int.reduceToNat, Int.reduceLE, Int.reduceEq, Int.reduceLT, Nat.reduceEqDiff, Nat.reduceAdd, zMn]
  refine MW_mid (fun f M' => f = [(0, .slice none 0 0), (1, .int .i64 0), (2, .func (.func 42) #[] #[]), (6, .int .i64 20), (7, .int .i64 0)] ∧ M' = M) ?_ ?_
  · refine CW_block (MW_loop (fun j f M' => f = [(0, .slice none 0 0), (1, .int .i64 0), (2, .func (.func 42) #[] #[]), (6, .int .i64 20), (7, .int .i64 0), (8, .int .i64 20)] ∧ M' = M) 0 ?_ ?_)
    · refine ⟨[0, 1, 2, 6, 7, 8], ?_⟩
      simp only [zZ, reduceIte, Nat.reduceLT, Int.reduceToNat, Int.reduceLE, Int.reduceEq, Int.reduceLT, Nat.reduceEqDiff, Nat.reduceAdd, keepF]
      exact ⟨M, Thin.refl _, rfl⟩
    · rintro j f _ ⟨rfl, e9⟩; replace e9 := e9.symm; subst e9
      have q : decide ((20 : Int) ≤ 0) = false := rfl
      refine CW_seq (CW_seq (CW_region ?_))
      simp only [zZ, reduceIte, Nat.reduceLT, Int.reduceToNat, Int.reduceLE, Int.reduceEq, Int.reduceLT, Nat.reduceEqDiff, Nat.reduceAdd, zMn, q]
      refine CW_cond false (by rfl) (fun h => by cases h) (fun _ => CW_exit ?_)
      refine ⟨[0, 1, 2, 6, 7], ?_⟩
      simp only [zZ, reduceIte, Nat.reduceLT, Int.reduceToNat, Int.reduceLE, Int.reduceEq, Int.reduceLT, Nat.reduceEqDiff, Nat.reduceAdd, keepF]
      exact ⟨M, Thin.refl _, rfl⟩
  rintro _ M9 ⟨rfl, e9⟩; replace e9 := e9.symm; subst e9
  refine CW_seq (CW_region ?_)
  simp only [zZ, reduceIte, Nat.reduceLT, Int.reduceToNat, Int.reduceLE, Int.reduceEq, Int.reduceLT, Nat.reduceEqDiff, Nat.reduceAdd, zMn]
  refine ⟨by kernel_rfl, _, hi, ?_⟩
  rintro _ M9 ⟨rfl, e9⟩; replace e9 := e9.symm; subst e9
  simp only [zZ, reduceIte, Nat.reduceLT, Int.reduceToNat, Int.reduceLE, Int.reduceEq, Int.reduceLT, Nat.reduceEqDiff, Nat.reduceAdd, zMn]
  refine CW_block (MW_loop (fun j f M' => f = [(1, .int .i64 0), (6, .int .i64 20)] ∧ M' = M) 0 ?_ ?_)
  · refine ⟨[1, 6], ?_⟩
    simp only [zZ, reduceIte, Nat.reduceLT, Int.reduceToNat, Int.reduceLE, Int.reduceEq, Int.reduceLT, Nat.reduceEqDiff, Nat.reduceAdd, keepF]
    exact ⟨M, Thin.refl _, rfl⟩
  · rintro j f _ ⟨rfl, e9⟩; replace e9 := e9.symm; subst e9
    have q : decide ((20 : Int) < 0) = false := rfl
    refine CW_seq (CW_seq (CW_region ?_))
    simp only [zZ, reduceIte, Nat.reduceLT, Int.reduceToNat, Int.reduceLE, Int.reduceEq, Int.reduceLT, Nat.reduceEqDiff, Nat.reduceAdd, zMn, q]
    refine CW_cond false (by rfl) (fun h => by cases h) (fun _ => CW_exit ?_)
    simp only [zZ, reduceIte, Nat.reduceLT, Int.reduceToNat, Int.reduceLE, Int.reduceEq, Int.reduceLT, Nat.reduceEqDiff, Nat.reduceAdd, zMn, mEnd, sAnswer, sAnswer.sRes]
    exact ⟨M, Thin.refl _, rfl⟩
theorem sortOwn_spec (K : Nat) (M : Mem) (V : Value) (L : List Header) (h : HdrsOwn K M V L) (hn2 : L.length ≤ 100000) (hs : Small L) :
    Abs.Spec Tryz.prog 41 [V, cmpV] M
      fun u M' => u = .tuple #[] ∧ (∃ R, Stable hid L R ∧ HdrsOwn K M' V R) ∧ (∀ b x, b < K → M.get b = some x → M'.get b = some x) ∧ M'.size = M.size := by
  rcases h with ⟨rfl, rfl⟩ | ⟨h0, g, hgk, rfl, hg⟩
  · have sp := stable_nil M
    unfold cmpV at sp ⊢
    refine Abs.Spec.walkM Tryz.func41 (by rfl) _ Tryz.results41 _ Tryz.ntmps41 (by simp) ?_
    intro hc hx k
    refine CW_region ?_
    simp only [zZ, reduceIte, Nat.reduceLT, Int.reduceToNat, Int.reduceLE, Int.reduceEq, Int.reduceLT, Nat.reduceEqDiff, Nat.reduceAdd, zMn]
    refine ⟨by kernel_rfl, _, sp, ?_⟩
    rintro _ M9 ⟨rfl, e9⟩; replace e9 := e9.symm; subst e9
    simp only [zZ, reduceIte, Nat.reduceLT, Int.reduceToNat, Int.reduceLE, Int.reduceEq, Int.reduceLT, Nat.reduceEqDiff, Nat.reduceAdd, zMn, mEnd, sAnswer, sAnswer.sRes]
    exact ⟨M, Thin.refl _, ⟨[], Stable.refl _ List.Pairwise.nil, .inl ⟨rfl, rfl⟩⟩, fun _ _ _ h => h, rfl⟩
  · refine (sort_spec g L.length L.length M L hg rfl hn2 hs).mono ?_
    rintro u M' ⟨rfl, ⟨R, hst, hg'⟩, ho, hsz⟩
    refine ⟨rfl, ⟨R, hst, .inr ⟨fun e => h0 (List.eq_nil_of_length_eq_zero (by rw [← hst.len, e]; rfl)), g, hgk, by rw [hst.len], hg'⟩⟩, fun b x hb hx => ho b x (by simp only [List.mem_singleton]; omega) hx, hsz⟩
end Go.Proofs.YtabffcplbjaklaaGreatDoor
namespace Go.Proofs.YtabffcplbjaklaaGreatDoor
open Go.RowKit Abs
theorem hdr_cell {L : List Header} {k o : Nat} {x : Header} (hx : L[k]? = some x) (ho : o < 7) (ro : Bool) (s : Nat) (v : Value) (hv : x.cells[o]? = some v) (hf : v.oneCell' = true) : cellIn (k * 7 + o) (some (.cells ro s (L.flatMap Header.cells))) = some v := by
  have := flatMap_get (n := 7) (fun a _ => hdr_len a) hx ho
  rw [hv] at this
  simp only [cellIn, this]
def FewOk (S : List Header) : Prop := S.length ≤ 270 ∧ ∀ h ∈ S, h.salt.size ≤ 100 ∧ h.root.size ≤ 100 ∧ h.tag.size ≤ 100 ∧ -1099511627776 ≤ h.id ∧ h.id ≤ 1099511627776
set_option maxRecDepth 100000 in
set_option maxHeartbeats 4000000 in
theorem few_spec (M : Mem) (v : Value) (L : List Header) (hr : Rd M 7 v L.length (L.flatMap Header.cells)) :
    Abs.Spec Tryz.prog 6 [v] M fun u M' => (∃ S, HdrsOwn M.size M' u S ∧ FewOk S ∧ ∀ h ∈ S, h ∈ L) ∧ (∀ b x, b < M.size → M.get b = some x → M'.get b = some x) ∧ M.size ≤ M'.size := by
  obtain ⟨a1, c1, rfl⟩ := hr.len
  refine Abs.Spec.walkM Tryz.func6 (by rfl) _ Tryz.results6 _ Tryz.ntmps6 (by simp) ?_
  intro hc hx k
  obtain ⟨K, hK⟩ : ∃ K, K = M.size := ⟨_, rfl⟩
  rw [← hK]
  refine CW_seq (CW_region ?_)
  simp only [zZ, reduceIte, Nat.reduceLT, Int.reduceToNat, Int.reduceLE, Int.reduceEq, Int.reduceLT, Nat.reduceEqDiff, Nat.reduceAdd, zMn]
  refine CW_seq (CW_region ?_)
  simp only [zZ, reduceIte, Nat.reduceLT, Int.reduceToNat, Int.reduceLE, Int.reduceEq, Int.reduceLT, Nat.reduceEqDiff, Nat.reduceAdd, zMn]
  refine CW_seq (CW_seq (CW_region ?_))
  simp only [zZ, reduceIte, Nat.reduceLT, Int.reduceToNat, Int.reduceLE, Int.reduceEq, Int.reduceLT, Nat.reduceEqDiff, Nat.reduceAdd, zMn]
  refine CW_block (MW_loop (fun j f M' => ∃ (i : Nat) (S : List Header) (V : Value), j = 270 - i ∧ f = [(0, .slice a1 L.length c1), (3, V), (4, .int .i64 (i : Nat))] ∧ i ≤ 270 ∧ S.length = i ∧ HdrsOwn K M' V S ∧ FewOk S ∧ (∀ h ∈ S, h ∈ L) ∧
    (∀ b x, b < K → M.get b = some x → M'.get b = some x) ∧ K ≤ M'.size) 270 ?_ ?_)
  · refine ⟨[0, 3, 4], ?_⟩
    simp only [zZ, reduceIte, Nat.reduceLT, Int.reduceToNat, Int.reduceLE, Int.reduceEq, Int.reduceLT, Nat.reduceEqDiff, Nat.reduceAdd, keepF]
    exact ⟨M, Thin.refl _, 0, [], _, rfl, rfl, by omega, rfl, .inl ⟨rfl, rfl⟩, ⟨by simp, by simp⟩, by simp, fun _ _ _ h => h, by omega⟩
  · rintro j f M' ⟨i, S, V, rfl, rfl, hi, hSl, hown, hok, hin, hold, hKs⟩
    refine CW_seq (CW_seq (CW_region ?_))
    cases q1 : decide ((i : Int) < (L.length : Int)) <;> cases q2 : decide ((i : Int) < 270)
    case' true.true =>
      have l1 := of_decide_eq_true q1
      have l2 := of_decide_eq_true q2
      obtain ⟨g1, r1, rfl, hg1⟩ := hr.at (by omega)
      obtain ⟨x, hX⟩ : ∃ x, L[i]? = some x := ⟨_, List.getElem?_eq_getElem (by omega)⟩
      have m1 := hold _ _ (by rw [hK]; exact get_live hg1) hg1
      have z0 : (0 : Int) ≤ (i : Int) := by omega
      have k0 := hdr_cell hX (o := 0) (by decide) r1 7 (.int .i64 x.id) rfl rfl
      have k1 := hdr_cell hX (o := 1) (by decide) r1 7 (.string x.salt) rfl rfl
      have k5 := hdr_cell hX (o := 5) (by decide) r1 7 (.string x.root) rfl rfl
      have k6 := hdr_cell hX (o := 6) (by decide) r1 7 (.string x.tag) rfl rfl
      rw [Nat.add_zero] at k0
      have ret : ∀ (f : AL), AL.get f 2 = some V → @withV _ (sAnswer Tryz.prog [] f M') ⟨fun v => True⟩ → True := fun _ _ _ => trivial
      simp only [zZ, reduceIte, Nat.reduceLT, Int.reduceToNat, Int.reduceLE, Int.reduceEq, Int.reduceLT, Nat.reduceEqDiff, Nat.reduceAdd, zMn, q1, q2]
      refine CW_cond true (by rfl) (fun _ => CW_skip ?_) (fun h => by cases h)
      simp only [zZ, reduceIte, Nat.reduceLT, Int.reduceToNat, Int.reduceLE, Int.reduceEq, Int.reduceLT, Nat.reduceEqDiff, Nat.reduceAdd]
      refine CW_seq (CW_block (CW_seq (CW_seq (CW_region ?_))))
      cases p1 : decide ((bsize x.salt : Int) > 100)
      case true =>
        simp only [zZ, reduceIte, Nat.reduceLT, Int.reduceToNat, Int.reduceLE, Int.reduceEq, Int.reduceLT, Nat.reduceEqDiff, Nat.reduceAdd, zMn, z0, l1, and_self, m1, k1, p1]
        refine CW_cond true (by rfl) (fun _ => CW_seq (CW_region ?_)) (fun h => by cases h)
        simp only [zZ, reduceIte, Nat.reduceLT, Int.reduceToNat, Int.reduceLE, Int.reduceEq, Int.reduceLT, Nat.reduceEqDiff, Nat.reduceAdd, zMn]
        refine CW_ret ?_
        simp only [zZ, reduceIte, Nat.reduceLT, Int.reduceToNat, Int.reduceLE, Int.reduceEq, Int.reduceLT, Nat.reduceEqDiff, Nat.reduceAdd, zMn, mEnd, sAnswer, sAnswer.sRes]
        exact ⟨M', Thin.refl _, ⟨S, hown, hok, hin⟩, hold, hKs⟩
      cases p2 : decide ((bsize x.root : Int) > 100)
      case true =>
        simp only [zZ, reduceIte, Nat.reduceLT, Int.reduceToNat, Int.reduceLE, Int.reduceEq, Int.reduceLT, Nat.reduceEqDiff, Nat.reduceAdd, zMn, z0, l1, and_self, m1, k1, k5, p1, p2]
        refine CW_cond true (by rfl) (fun _ => CW_seq (CW_region ?_)) (fun h => by cases h)
        simp only [zZ, reduceIte, Nat.reduceLT, Int.reduceToNat, Int.reduceLE, Int.reduceEq, Int.reduceLT, Nat.reduceEqDiff, Nat.reduceAdd, zMn]
        refine CW_ret ?_
        simp only [zZ, reduceIte, Nat.reduceLT, Int.reduceToNat, Int.reduceLE, Int.reduceEq, Int.reduceLT, Nat.reduceEqDiff, Nat.reduceAdd, zMn, mEnd, sAnswer, sAnswer.sRes]
        exact ⟨M', Thin.refl _, ⟨S, hown, hok, hin⟩, hold, hKs⟩
      cases p3 : decide ((bsize x.tag : Int) > 100)
      case true =>
        simp only [zZ, reduceIte, Nat.reduceLT, Int.reduceToNat, Int.reduceLE, Int.reduceEq, Int.reduceLT, Nat.reduceEqDiff, Nat.reduceAdd, zMn, z0, l1, and_self, m1, k1, k5, k6, p1, p2, p3]
        refine CW_cond true (by rfl) (fun _ => CW_seq (CW_region ?_)) (fun h => by cases h)
        simp only [zZ, reduceIte, Nat.reduceLT, Int.reduceToNat, Int.reduceLE, Int.reduceEq, Int.reduceLT, Nat.reduceEqDiff, Nat.reduceAdd, zMn]
        refine CW_ret ?_
        simp only [zZ, reduceIte, Nat.reduceLT, Int.reduceToNat, Int.reduceLE, Int.reduceEq, Int.reduceLT, Nat.reduceEqDiff, Nat.reduceAdd, zMn, mEnd, sAnswer, sAnswer.sRes]
        exact ⟨M', Thin.refl _, ⟨S, hown, hok, hin⟩, hold, hKs⟩
      cases p4 : decide (x.id < -1099511627776)
      case true =>
        simp only [zZ, reduceIte, Nat.reduceLT, Int.reduceToNat, Int.reduceLE, Int.reduceEq, Int.reduceLT, Nat.reduceEqDiff, Nat.reduceAdd, zMn, z0, l1, and_self, m1, k0, k1, k5, k6, p1, p2, p3, p4]
        refine CW_cond true (by rfl) (fun _ => CW_seq (CW_region ?_)) (fun h => by cases h)
        simp only [zZ, reduceIte, Nat.reduceLT, Int.reduceToNat, Int.reduceLE, Int.reduceEq, Int.reduceLT, Nat.reduceEqDiff, Nat.reduceAdd, zMn]
        refine CW_ret ?_
        simp only [zZ, reduceIte, Nat.reduceLT, Int.reduceToNat, Int.reduceLE, Int.reduceEq, Int.reduceLT, Nat.reduceEqDiff, Nat.reduceAdd, zMn, mEnd, sAnswer, sAnswer.sRes]
        exact ⟨M', Thin.refl _, ⟨S, hown, hok, hin⟩, hold, hKs⟩
      cases p5 : decide (x.id > 1099511627776)
      case true =>
        simp only [zZ, reduceIte, Nat.reduceLT, Int.reduceToNat, Int.reduceLE, Int.reduceEq, Int.reduceLT, Nat.reduceEqDiff, Nat.reduceAdd, zMn, z0, l1, and_self, m1, k0, k1, k5, k6, p1, p2, p3, p4, p5]
        refine CW_cond true (by rfl) (fun _ => CW_seq (CW_region ?_)) (fun h => by cases h)
        simp only [zZ, reduceIte, Nat.reduceLT, Int.reduceToNat, Int.reduceLE, Int.reduceEq, Int.reduceLT, Nat.reduceEqDiff, Nat.reduceAdd, zMn]
        refine CW_ret ?_
        simp only [zZ, reduceIte, Nat.reduceLT, Int.reduceToNat, Int.reduceLE, Int.reduceEq, Int.reduceLT, Nat.reduceEqDiff, Nat.reduceAdd, zMn, mEnd, sAnswer, sAnswer.sRes]
        exact ⟨M', Thin.refl _, ⟨S, hown, hok, hin⟩, hold, hKs⟩
      have n1 := of_decide_eq_false p1
      have n2 := of_decide_eq_false p2
      have n3 := of_decide_eq_false p3
      have n4 := of_decide_eq_false p4
      have n5 := of_decide_eq_false p5
      rw [bsize_eq] at n1 n2 n3
      simp only [zZ, reduceIte, Nat.reduceLT, Int.reduceToNat, Int.reduceLE, Int.reduceEq, Int.reduceLT, Nat.reduceEqDiff, Nat.reduceAdd, zMn, z0, l1, and_self, m1, k0, k1, k5, k6, p1, p2, p3, p4, p5]
      refine CW_cond false (by rfl) (fun h => by cases h) (fun _ => CW_skip ?_)
      simp only [zZ, reduceIte, Nat.reduceLT, Int.reduceToNat, Int.reduceLE, Int.reduceEq, Int.reduceLT, Nat.reduceEqDiff, Nat.reduceAdd]
      have rx := rowIn_at (n := 7) (f := Header.cells) (fun a _ => hdr_len a) hX r1 7
      obtain ⟨M2, V2, ap, hb2, hown2, hs2, hold2⟩ := happ hown hKs (by omega) x
      have nw := new_hdr1 x
      have w9 : IntKind.i64.wrap ((i : Int) + 1) = ((i + 1 : Nat) : Int) := by rw [wri (by omega) (by omega)]; omega
      refine CW_region ?_
      simp only [zZ, reduceIte, Nat.reduceLT, Int.reduceToNat, Int.reduceLE, Int.reduceEq, Int.reduceLT, Nat.reduceEqDiff, Nat.reduceAdd, zMn, z0, l1, and_self, m1, rx, nw, ap]
      refine CW_region ?_
      simp only [zZ, reduceIte, Nat.reduceLT, Int.reduceToNat, Int.reduceLE, Int.reduceEq, Int.reduceLT, Nat.reduceEqDiff, Nat.reduceAdd, zMn, w9]
      refine ⟨[0, 3, 4], ?_⟩
      simp only [zZ, reduceIte, Nat.reduceLT, Int.reduceToNat, Int.reduceLE, Int.reduceEq, Int.reduceLT, Nat.reduceEqDiff, Nat.reduceAdd, keepF]
      refine ⟨M2, Thin.refl _, 270 - (i + 1), ⟨i + 1, S ++ [x], V2, rfl, rfl, by omega, by simp [hSl], hown2, ⟨by simp; omega, ?_⟩, ?_, fun b y hb hy => hold2 b y (fun e => by have := (hown.live e).1; omega) (hold b y hb hy), by omega⟩, by omega⟩
      · intro h hh
        rcases List.mem_append.1 hh with hh | hh
        · exact hok.2 h hh
        · simp only [List.mem_singleton] at hh
          rw [hh]
          exact ⟨by omega, by omega, by omega, by omega, by omega⟩
      · intro h hh
        rcases List.mem_append.1 hh with hh | hh
        · exact hin h hh
        · simp only [List.mem_singleton] at hh
          rw [hh]; exact List.mem_of_getElem? hX
    all_goals
      simp only [zZ, reduceIte, Nat.reduceLT, Int.reduceToNat, Int.reduceLE, Int.reduceEq, Int.reduceLT, Nat.reduceEqDiff, Nat.reduceAdd, zMn, q1, q2]
      refine CW_cond false (by rfl) (fun h => by cases h) (fun _ => CW_exit ?_)
      simp only [zZ, reduceIte, Nat.reduceLT, Int.reduceToNat, Int.reduceLE, Int.reduceEq, Int.reduceLT, Nat.reduceEqDiff, Nat.reduceAdd]
      refine CW_seq (CW_region ?_)
      simp only [zZ, reduceIte, Nat.reduceLT, Int.reduceToNat, Int.reduceLE, Int.reduceEq, Int.reduceLT, Nat.reduceEqDiff, Nat.reduceAdd, zMn]
      refine CW_ret ?_
      simp only [zZ, reduceIte, Nat.reduceLT, Int.reduceToNat, Int.reduceLE, Int.reduceEq, Int.reduceLT, Nat.reduceEqDiff, Nat.reduceAdd, zMn, mEnd, sAnswer, sAnswer.sRes]
      exact ⟨M', Thin.refl _, ⟨S, hown, hok, hin⟩, hold, hKs⟩
end Go.Proofs.YtabffcplbjaklaaGreatDoor
namespace Go.Proofs.YtabffcplbjaklaaGreatDoor
open Go.RowKit Abs Stab
def sortErr : Option Header → List Header → Int
  | _, [] => 0
  | p, h :: r => if mayH h = false then 1 else if (match p with | some q => decide (q.id = h.id) | none => false) = true then 6 else sortErr (some h) r
theorem sortErr_cons (p : Option Header) (h : Header) (r : List Header) : sortErr p (h :: r) = if mayH h = false then 1 else if (match p with | some q => decide (q.id = h.id) | none => false) = true then 6 else sortErr (some h) r := by cases p <;> rfl
def prevOf (R : List Header) (i : Nat) : Option Header := if i = 0 then none else R[i - 1]?
def SortedIs (k : Nat) (L : List Header) (M' : Mem) (u : Value) : Prop := if 256 < L.length then u = .tuple #[.slice none 0 0, .int .i64 3] else ∃ R, Stable hid L R ∧ if sortErr none R = 0 then ∃ V', u = .tuple #[V', .int .i64 0] ∧ HdrsOwn k M' V' R else u = .tuple #[.slice none 0 0, .int .i64 (sortErr none R)]
theorem SortedIs.full {k : Nat} {L : List Header} {M' : Mem} (h : 256 < L.length) : SortedIs k L M' (.tuple #[.slice none 0 0, .int .i64 3]) := by unfold SortedIs; rw [if_pos h]
theorem SortedIs.bad {k : Nat} {L R : List Header} {M' : Mem} {e : Int} (h : ¬ 256 < L.length) (hst : Stable hid L R) (he : sortErr none R = e) (h0 : e ≠ 0) : SortedIs k L M' (.tuple #[.slice none 0 0, .int .i64 e]) := by
  unfold SortedIs; rw [if_neg h]; exact ⟨R, hst, by rw [he, if_neg h0]⟩
theorem SortedIs.good {k : Nat} {L R : List Header} {M' : Mem} {V : Value} (h : ¬ 256 < L.length) (hst : Stable hid L R) (he : sortErr none R = 0) (hown : HdrsOwn k M' V R) : SortedIs k L M' (.tuple #[V, .int .i64 0]) := by
  unfold SortedIs; rw [if_neg h]; exact ⟨R, hst, by rw [if_pos he]; exact ⟨V, rfl, hown⟩⟩
set_option maxRecDepth 100000 in
set_option maxHeartbeats 4000000 in
theorem sorted_spec (K : Nat) (M : Mem) (V : Value) (L : List Header) (h : HdrsOwn K M V L) (hl : L.length ≤ 1000) (hs : Small L) :
    Abs.Spec Tryz.prog 16 [V] M fun u M' => (∀ b x, b < M.size → M.get b = some x → M'.get b = some x) ∧ M.size ≤ M'.size ∧ SortedIs M.size L M' u := by
  obtain ⟨a0, c0, hV⟩ := h.len
  subst hV
  refine Abs.Spec.walkM Tryz.func16 (by rfl) _ Tryz.results16 _ Tryz.ntmps16 (by simp) ?_
  intro hc hx k
  refine CW_seq (CW_region ?_)
  simp only [zZ, reduceIte, Nat.reduceLT, Int.reduceToNat, Int.reduceLE, Int.reduceEq, Int.reduceLT, Nat.reduceEqDiff, Nat.reduceAdd, zMn]
  refine CW_seq (CW_seq (CW_region ?_))
  cases q0 : decide ((L.length : Int) > 256)
  case true =>
    have l0 := of_decide_eq_true q0
    simp only [zZ, reduceIte, Nat.reduceLT, Int.reduceToNat, Int.reduceLE, Int.reduceEq, Int.reduceLT, Nat.reduceEqDiff, Nat.reduceAdd, zMn, q0]
    refine CW_cond true (by rfl) (fun _ => CW_seq (CW_region ?_)) (fun h => by cases h)
    simp only [zZ, reduceIte, Nat.reduceLT, Int.reduceToNat, Int.reduceLE, Int.reduceEq, Int.reduceLT, Nat.reduceEqDiff, Nat.reduceAdd, zMn]
    refine CW_ret ?_
    simp only [zZ, reduceIte, Nat.reduceLT, Int.reduceToNat, Int.reduceLE, Int.reduceEq, Int.reduceLT, Nat.reduceEqDiff, Nat.reduceAdd, zMn, mEnd, sAnswer, sAnswer.sRes]
    exact ⟨M, Thin.refl _, fun _ _ _ h => h, Nat.le_refl _, .full (by omega)⟩
  have l0 := of_decide_eq_false q0
  simp only [zZ, reduceIte, Nat.reduceLT, Int.reduceToNat, Int.reduceLE, Int.reduceEq, Int.reduceLT, Nat.reduceEqDiff, Nat.reduceAdd, zMn, q0]
  refine CW_cond false (by rfl) (fun h => by cases h) (fun _ => CW_skip ?_)
  simp only [zZ, reduceIte, Nat.reduceLT, Int.reduceToNat, Int.reduceLE, Int.reduceEq, Int.reduceLT, Nat.reduceEqDiff, Nat.reduceAdd]
  have nl : ¬ 256 < L.length := by omega
  refine CW_seq (CW_region ?_)
  simp only [zZ, reduceIte, Nat.reduceLT, Int.reduceToNat, Int.reduceLE, Int.reduceEq, Int.reduceLT, Nat.reduceEqDiff, Nat.reduceAdd, zMn]
  refine ⟨by kernel_rfl, _, clone_spec K M _ L h (by omega), ?_⟩
  rintro V1 M1 ⟨hown1, ho1, hs1⟩
  obtain ⟨a1, c1, hV1⟩ := hown1.len
  subst hV1
  simp only [zZ, reduceIte, Nat.reduceLT, Int.reduceToNat, Int.reduceLE, Int.reduceEq, Int.reduceLT, Nat.reduceEqDiff, Nat.reduceAdd, zMn]
  have sp := sortOwn_spec M.size M1 _ L hown1 (by omega) hs
  unfold cmpV at sp
  refine CW_seq (CW_region ?_)
  simp only [zZ, reduceIte, Nat.reduceLT, Int.reduceToNat, Int.reduceLE, Int.reduceEq, Int.reduceLT, Nat.reduceEqDiff, Nat.reduceAdd, zMn]
  refine ⟨by kernel_rfl, _, sp, ?_⟩
  rintro _ M2 ⟨rfl, ⟨R, hst, hown2⟩, ho2, hs2⟩
  have hRl := hst.len
  rw [← hRl] at hown2
  have hold2 : ∀ b x, b < M.size → M.get b = some x → M2.get b = some x := fun b x hb hx => ho2 b x hb (ho1 b x (by simp) hx)
  simp only [zZ, reduceIte, Nat.reduceLT, Int.reduceToNat, Int.reduceLE, Int.reduceEq, Int.reduceLT, Nat.reduceEqDiff, Nat.reduceAdd, zMn]
  have hal : nAlloc Tryz.prog 40 = some (.cells false (aStride Tryz.prog 40) [.int .i64 0, .string ⟨#[]⟩, .int .i64 0, .int .i64 0, .int .i64 0, .string ⟨#[]⟩, .string ⟨#[]⟩]) := al_Hdr
  generalize aStride Tryz.prog 40 = s2 at hal
  have at2 : ∀ M', (∀ b x, M2.get b = some x → M'.get b = some x) → ∀ (i : Nat) (x : Header), R[i]? = some x → ∃ g, a1 = some ⟨g, 0, none⟩ ∧ HdrsIn M' g R := by
    intro M' hM i x hx
    rcases hown2 with ⟨h1, _⟩ | ⟨h1, g, _, h3, h4⟩
    · rw [h1] at hx; cases hx
    · cases h3; exact ⟨g, rfl, hM _ _ h4⟩
  rw [← hRl]
  refine MW_mid (fun f M' => f = [(4, .slice a1 R.length c1)] ∧ sortErr none R = 0 ∧ (∀ b x, M2.get b = some x → M'.get b = some x) ∧ M2.size ≤ M'.size) ?_ ?_
  · refine CW_seq (CW_region ?_)
    simp only [zZ, reduceIte, Nat.reduceLT, Int.reduceToNat, Int.reduceLE, Int.reduceEq, Int.reduceLT, Nat.reduceEqDiff, Nat.reduceAdd, zMn]
    refine CW_block (MW_loop (fun j f M' => ∃ i : Nat, j = R.length - i ∧ f = [(4, .slice a1 R.length c1), (15, .slice a1 R.length c1), (16, .int .i64 (R.length : Nat)), (17, .int .i64 (i : Nat))] ∧ i ≤ R.length ∧ sortErr none R = sortErr (prevOf R i) (R.drop i) ∧ (∀ b x, M2.get b = some x → M'.get b = some x) ∧ M2.size ≤ M'.size) R.length ?_ ?_)
    · refine ⟨[4, 15, 16, 17], ?_⟩
      simp only [zZ, reduceIte, Nat.reduceLT, Int.reduceToNat, Int.reduceLE, Int.reduceEq, Int.reduceLT, Nat.reduceEqDiff, Nat.reduceAdd, keepF]
      exact ⟨M2, Thin.refl _, 0, rfl, rfl, by omega, rfl, fun _ _ h => h, Nat.le_refl _⟩
    · rintro j f M' ⟨i, rfl, rfl, hi, herr, hM, hsz⟩
      refine CW_seq (CW_region ?_)
      simp only [zZ, reduceIte, Nat.reduceLT, Int.reduceToNat, Int.reduceLE, Int.reduceEq, Int.reduceLT, Nat.reduceEqDiff, Nat.reduceAdd, zMn]
      refine CW_seq (CW_cond (decide ((i : Int) < (R.length : Int))) (by rfl) (fun h => CW_skip ?_) (fun h => CW_exit ?_))
      · have h := of_decide_eq_true h
        obtain ⟨x, hX⟩ : ∃ x, R[i]? = some x := ⟨_, List.getElem?_eq_getElem (by omega)⟩
        obtain ⟨g, rfl, hg⟩ := at2 M' hM i x hX
        have r1 := hdr_row hg hX
        have z0 : (0 : Int) ≤ (i : Int) := by omega
        have hdrop : R.drop i = x :: R.drop (i + 1) := by
          obtain ⟨h1, rfl⟩ := List.getElem?_eq_some_iff.1 hX
          exact List.drop_eq_getElem_cons h1
        have hput : putIn 7 (M'.push (.cells false s2 [.int .i64 0, .string ⟨#[]⟩, .int .i64 0, .int .i64 0, .int .i64 0, .string ⟨#[]⟩, .string ⟨#[]⟩])) M'.size 0 x.cells (some (.cells false s2 [.int .i64 0, .string ⟨#[]⟩, .int .i64 0, .int .i64 0, .int .i64 0, .string ⟨#[]⟩, .string ⟨#[]⟩])) = some (M'.push (.cells false s2 x.cells)) := by
          simp only [putIn]
          rw [if_pos ⟨rfl, Nat.le_refl 7, rfl⟩]
          congr 1
          exact push_set _ _ _
        simp only [zZ, reduceIte, Nat.reduceLT, Int.reduceToNat, Int.reduceLE, Int.reduceEq, Int.reduceLT, Nat.reduceEqDiff, Nat.reduceAdd]
        refine CW_seq (CW_block (CW_seq (CW_region ?_)))
        simp only [zZ, reduceIte, Nat.reduceLT, Int.reduceToNat, Int.reduceLE, Int.reduceEq, Int.reduceLT, Nat.reduceEqDiff, Nat.reduceAdd, zMn, z0, h, and_self, r1, hal, Mem.get_push_new, agg_cells, hput]
        obtain ⟨M4, hM4⟩ : ∃ M4, M4 = M'.push (.cells false s2 x.cells) := ⟨_, rfl⟩
        obtain ⟨bs, hbs⟩ : ∃ bs, bs = M'.size := ⟨_, rfl⟩
        have hg4 : M4.get bs = some (.cells false s2 x.cells) := by rw [hM4, hbs, Mem.get_push_new]
        have hold4 : ∀ b y, M'.get b = some y → M4.get b = some y := fun b y hy => by rw [hM4, Mem.get_push_old (get_live hy)]; exact hy
        have hs4 : M4.size = M'.size + 1 := by rw [hM4, Mem.size_push]
        have rx : rowIn 7 0 (some (.cells false s2 x.cells)) = some (.agg x.cells.toArray) := rfl
        have cx : cellIn 0 (some (.cells false s2 x.cells)) = some (.int .i64 x.id) := rfl
        rw [← hM4, ← hbs]
        obtain ⟨E, hE⟩ : ∃ E : Int, E = if mayH x = true then 0 else 1 := ⟨_, rfl⟩
        have qE : (E != 0) = !mayH x := by rw [hE]; cases mayH x <;> rfl
        refine CW_seq (CW_seq (CW_region ?_))
        simp only [zZ, reduceIte, Nat.reduceLT, Int.reduceToNat, Int.reduceLE, Int.reduceEq, Int.reduceLT, Nat.reduceEqDiff, Nat.reduceAdd, zMn, hg4, rx]
        refine ⟨by kernel_rfl, _, hcheck_spec x M4, ?_⟩
        rintro _ M9 ⟨rfl, e9⟩; replace e9 := e9.symm; subst e9
        rw [← hE]
        simp only [zZ, reduceIte, Nat.reduceLT, Int.reduceToNat, Int.reduceLE, Int.reduceEq, Int.reduceLT, Nat.reduceEqDiff, Nat.reduceAdd, zMn]
        refine CW_seq (CW_region ?_)
        rw [hdrop] at herr
        have keep : ∀ b x, b < M.size → M.get b = some x → M4.get b = some x := fun b y hb hy => hold4 _ _ (hM _ _ (hold2 b y hb hy))
        cases qm : mayH x
        · have e1 : sortErr none R = 1 := by rw [herr, sortErr_cons, if_pos qm]
          have e2 : E = 1 := by rw [hE, qm]; rfl
          have qE : (E != 0) = true := by rw [qE, qm]; rfl
          simp only [zZ, reduceIte, Nat.reduceLT, Int.reduceToNat, Int.reduceLE, Int.reduceEq, Int.reduceLT, Nat.reduceEqDiff, Nat.reduceAdd, zMn, qE]
          refine CW_cond true (by rfl) (fun _ => CW_seq (CW_region ?_)) (fun h => by cases h)
          simp only [zZ, reduceIte, Nat.reduceLT, Int.reduceToNat, Int.reduceLE, Int.reduceEq, Int.reduceLT, Nat.reduceEqDiff, Nat.reduceAdd, zMn]
          refine CW_ret ?_
          simp only [zZ, reduceIte, Nat.reduceLT, Int.reduceToNat, Int.reduceLE, Int.reduceEq, Int.reduceLT, Nat.reduceEqDiff, Nat.reduceAdd, zMn, mEnd, sAnswer, sAnswer.sRes]
          exact ⟨M4, Thin.refl _, keep, by omega, by rw [e2]; exact .bad nl hst e1 (by decide)⟩
        · have qE : (E != 0) = false := by rw [qE, qm]; rfl
          rw [sortErr_cons, if_neg (by rw [qm]; simp)] at herr
          simp only [zZ, reduceIte, Nat.reduceLT, Int.reduceToNat, Int.reduceLE, Int.reduceEq, Int.reduceLT, Nat.reduceEqDiff, Nat.reduceAdd, zMn, qE]
          refine CW_cond false (by rfl) (fun h => by cases h) (fun _ => CW_skip ?_)
          simp only [zZ, reduceIte, Nat.reduceLT, Int.reduceToNat, Int.reduceLE, Int.reduceEq, Int.reduceLT, Nat.reduceEqDiff, Nat.reduceAdd]
          refine CW_seq (CW_draw hmix 11 (by kernel_rfl) (by kernel_rfl) ?_)
          have w9 : IntKind.i64.wrap ((i : Int) + 1) = ((i + 1 : Nat) : Int) := by rw [wri (by omega) (by omega)]; omega
          have nxt : ∀ (hne : sortErr none R = sortErr (some x) (R.drop (i + 1))), sortErr none R = sortErr (prevOf R (i + 1)) (R.drop (i + 1)) := fun hne => by
            rw [hne]; unfold prevOf; rw [if_neg (by omega), Nat.add_sub_cancel, hX]
          by_cases hi0 : i = 0
          · have q1 : decide ((i : Int) > 0) = false := decide_eq_false (by omega)
            have e3 : sortErr none R = sortErr (some x) (R.drop (i + 1)) := by
              rw [herr]
              unfold prevOf
              rw [if_pos hi0]
              simp
            simp only [zZ, reduceIte, Nat.reduceLT, Int.reduceToNat, Int.reduceLE, Int.reduceEq, Int.reduceLT, Nat.reduceEqDiff, Nat.reduceAdd, zMn, q1]
            refine CW_cond false (by rfl) (fun h => by cases h) (fun _ => CW_skip ?_)
            simp only [zZ, reduceIte, Nat.reduceLT, Int.reduceToNat, Int.reduceLE, Int.reduceEq, Int.reduceLT, Nat.reduceEqDiff, Nat.reduceAdd]
            refine CW_region ?_
            simp only [zZ, reduceIte, Nat.reduceLT, Int.reduceToNat, Int.reduceLE, Int.reduceEq, Int.reduceLT, Nat.reduceEqDiff, Nat.reduceAdd, zMn, w9]
            refine ⟨[4, 15, 16, 17], ?_⟩
            simp only [zZ, reduceIte, Nat.reduceLT, Int.reduceToNat, Int.reduceLE, Int.reduceEq, Int.reduceLT, Nat.reduceEqDiff, Nat.reduceAdd, keepF]
            exact ⟨M4, Thin.refl _, R.length - (i + 1), ⟨i + 1, rfl, rfl, by omega, nxt e3, fun b y hy => hold4 _ _ (hM _ _ hy), by omega⟩, by omega⟩
          · have q1 : decide ((i : Int) > 0) = true := decide_eq_true (by omega)
            obtain ⟨y, hY⟩ : ∃ y, R[i - 1]? = some y := ⟨_, List.getElem?_eq_getElem (by omega)⟩
            have cy := hdr_cell hY (o := 0) (by decide) false 7 (.int .i64 y.id) rfl rfl
            rw [Nat.add_zero] at cy
            have hg5 : M4.get g = some (.cells false 7 (R.flatMap Header.cells)) := hold4 _ _ hg
            have w1 : IntKind.i64.wrap ((i : Int) - 1) = ((i - 1 : Nat) : Int) := by rw [wri (by omega) (by omega)]; omega
            have z1 : (0 : Int) ≤ ((i - 1 : Nat) : Int) := by omega
            have z2 : ((i - 1 : Nat) : Int) < (R.length : Int) := by omega
            have hp : prevOf R i = some y := by unfold prevOf; rw [if_neg hi0]; exact hY
            rw [hp] at herr
            cases qd : (y.id == x.id)
            · have e3 : sortErr none R = sortErr (some x) (R.drop (i + 1)) := by
                rw [herr, if_neg]
                have := beq_eq_false_iff_ne.1 qd
                simpa using this
              simp only [zZ, reduceIte, Nat.reduceLT, Int.reduceToNat, Int.reduceLE, Int.reduceEq, Int.reduceLT, Nat.reduceEqDiff, Nat.reduceAdd, zMn, q1, w1, z1, z2, and_self, hg5, hg4, cy, cx, qd]
              refine CW_cond false (by rfl) (fun h => by cases h) (fun _ => CW_skip ?_)
              simp only [zZ, reduceIte, Nat.reduceLT, Int.reduceToNat, Int.reduceLE, Int.reduceEq, Int.reduceLT, Nat.reduceEqDiff, Nat.reduceAdd]
              refine CW_region ?_
              simp only [zZ, reduceIte, Nat.reduceLT, Int.reduceToNat, Int.reduceLE, Int.reduceEq, Int.reduceLT, Nat.reduceEqDiff, Nat.reduceAdd, zMn, w9]
              refine ⟨[4, 15, 16, 17], ?_⟩
              simp only [zZ, reduceIte, Nat.reduceLT, Int.reduceToNat, Int.reduceLE, Int.reduceEq, Int.reduceLT, Nat.reduceEqDiff, Nat.reduceAdd, keepF]
              exact ⟨M4, Thin.refl _, R.length - (i + 1), ⟨i + 1, rfl, rfl, by omega, nxt e3, fun b y hy => hold4 _ _ (hM _ _ hy), by omega⟩, by omega⟩
            · have e3 : sortErr none R = 6 := by
                rw [herr, if_pos]
                have := beq_iff_eq.1 qd
                simpa using this
              simp only [zZ, reduceIte, Nat.reduceLT, Int.reduceToNat, Int.reduceLE, Int.reduceEq, Int.reduceLT, Nat.reduceEqDiff, Nat.reduceAdd, zMn, q1, w1, z1, z2, and_self, hg5, hg4, cy, cx, qd]
              refine CW_cond true (by rfl) (fun _ => CW_seq (CW_region ?_)) (fun h => by cases h)
              simp only [zZ, reduceIte, Nat.reduceLT, Int.reduceToNat, Int.reduceLE, Int.reduceEq, Int.reduceLT, Nat.reduceEqDiff, Nat.reduceAdd, zMn]
              refine CW_ret ?_
              simp only [zZ, reduceIte, Nat.reduceLT, Int.reduceToNat, Int.reduceLE, Int.reduceEq, Int.reduceLT, Nat.reduceEqDiff, Nat.reduceAdd, zMn, mEnd, sAnswer, sAnswer.sRes]
              exact ⟨M4, Thin.refl _, keep, by omega, .bad nl hst e3 (by decide)⟩
      · have h := of_decide_eq_false h
        refine ⟨[4], ?_⟩
        simp only [zZ, reduceIte, Nat.reduceLT, Int.reduceToNat, Int.reduceLE, Int.reduceEq, Int.reduceLT, Nat.reduceEqDiff, Nat.reduceAdd, keepF]
        refine ⟨M', Thin.refl _, ?_, hM, hsz⟩
        rw [herr, List.drop_eq_nil_of_le (by omega)]
        rfl
  rintro _ M3 ⟨rfl, herr, hM, hsz⟩
  refine CW_seq (CW_region ?_)
  simp only [zZ, reduceIte, Nat.reduceLT, Int.reduceToNat, Int.reduceLE, Int.reduceEq, Int.reduceLT, Nat.reduceEqDiff, Nat.reduceAdd, zMn]
  refine CW_ret ?_
  simp only [zZ, reduceIte, Nat.reduceLT, Int.reduceToNat, Int.reduceLE, Int.reduceEq, Int.reduceLT, Nat.reduceEqDiff, Nat.reduceAdd, zMn, mEnd, sAnswer, sAnswer.sRes]
  exact ⟨M3, Thin.refl _, fun b x hb hx => hM _ _ (hold2 b x hb hx), by omega, .good nl hst herr (hown2.same fun b x _ hx => hM _ _ hx)⟩
end Go.Proofs.YtabffcplbjaklaaGreatDoor
namespace Go.Proofs.YtabffcplbjaklaaGreatDoor
open Go.RowKit Abs
def digs : List UInt8 := [48, 49, 50, 51, 52, 53, 54, 55, 56, 57, 97, 98, 99, 100, 101, 102]
def digit (k : Nat) : UInt8 := digs.getD k 0
def hexL (l : List UInt8) : List UInt8 := l.flatMap fun b => [digit (b.toNat / 16), digit (b.toNat % 16)]
def hexV (l : List UInt8) : List UInt8 := if l = [] then [45] else hexL l
theorem digs_at (k : Nat) (hk : k < 16) (i : Int) (hi : i = k) : aIndex Tryz.prog 9 (.string (str digs)) (.int .u8 i) = some (byteV (digit k)) := by
  subst hi
  unfold aIndex
  have hk' : k < (str digs).data.toList.length := hk
  simp only [Tryz.underlying9, if_pos (show (0 : Int) ≤ (k : Int) by omega), Int.toNat_natCast, List.getElem?_eq_getElem hk']
  have hk2 : k < digs.length := hk
  have : digit k = digs[k] := by unfold digit; rw [List.getD_eq_getElem?_getD, List.getElem?_eq_getElem hk2]; rfl
  rw [this]
  rfl
theorem digs_hi (b : UInt8) : aIndex Tryz.prog 9 (.string ⟨#[48, 49, 50, 51, 52, 53, 54, 55, 56, 57, 97, 98, 99, 100, 101, 102]⟩) (.int .u8 ((b.toNat : Int).fdiv (2 ^ min 4 IntKind.u8.bits))) = some (byteV (digit (b.toNat / 16))) := by
  have := b.toNat_lt
  exact digs_at (b.toNat / 16) (by omega) _ (by show (b.toNat : Int).fdiv 16 = _; rw [Int.fdiv_eq_ediv_of_nonneg _ (by decide)]; omega)
theorem low_bits : ∀ n : Fin 256, bits BinOp.and IntKind.u8 (n.val : Int) 15 = ((n.val % 16 : Nat) : Int) := by decide +kernel
theorem digs_lo (b : UInt8) : aIndex Tryz.prog 9 (.string ⟨#[48, 49, 50, 51, 52, 53, 54, 55, 56, 57, 97, 98, 99, 100, 101, 102]⟩) (.int .u8 (bits BinOp.and IntKind.u8 (b.toNat : Int) 15)) = some (byteV (digit (b.toNat % 16))) := by
  have := b.toNat_lt
  exact digs_at (b.toNat % 16) (by omega) _ (low_bits ⟨b.toNat, this⟩)
theorem new_two (x y : Int) : nBuildSlice Tryz.prog 44 2 [(0, .int .u8 x), (1, .int .u8 y)] = some (.cells false 1 [.int .u8 x, .int .u8 y]) := by
  unfold nBuildSlice
  simp only [Tryz.underlying44, inf_u8, u8_size, u8_zero]
  rfl
def zHex := And.intro (And.intro Tryz.underlying9 Tryz.underlying44) (And.intro (Tryz.underlying5) (And.intro Tryz.underlying3 Tryz.underlying4))
set_option maxRecDepth 100000 in
set_option maxHeartbeats 2000000 in
theorem hex_spec (s : ByteArray) (hs : s.size ≤ 1000000) (m : Mem) :
    Abs.Spec Tryz.prog 20 [.string s] m fun u M => u = .string (str (hexV s.data.toList)) ∧ M = m := by
  refine Abs.Spec.walkB Tryz.func20 (by rfl) _ Tryz.results20 _ Tryz.ntmps20 (by simp) m [] (ext_nil m).symm 0 rfl (.inl rfl) ?_
  intro hc _
  refine CW_seq (CW_region ?_)
  simp only [zZ, reduceIte, Nat.reduceLT, Int.reduceToNat, Int.reduceLE, Int.reduceEq, Int.reduceLT, Nat.reduceEqDiff, Nat.reduceAdd, zHex]
  refine CW_seq (CW_seq (CW_region ?_))
  simp only [zZ, reduceIte, Nat.reduceLT, Int.reduceToNat, Int.reduceLE, Int.reduceEq, Int.reduceLT, Nat.reduceEqDiff, Nat.reduceAdd, zHex]
  refine CW_cond (beqB s ⟨#[]⟩) (by rfl) (fun h => CW_seq (CW_region ?_)) (fun h => CW_skip ?_)
  · simp only [zZ, reduceIte, Nat.reduceLT, Int.reduceToNat, Int.reduceLE, Int.reduceEq, Int.reduceLT, Nat.reduceEqDiff, Nat.reduceAdd, zHex]
    refine CW_ret ?_
    simp only [zZ, reduceIte, Nat.reduceLT, Int.reduceToNat, Int.reduceLE, Int.reduceEq, Int.reduceLT, Nat.reduceEqDiff, Nat.reduceAdd, zHex, bEnd, sAnswer, sAnswer.sRes]
    have e : s = ⟨#[]⟩ := by rw [beqB_dec] at h; exact of_decide_eq_true h
    subst e
    exact told_flat rfl rfl
  · simp only [zZ, reduceIte, Nat.reduceLT, Int.reduceToNat, Int.reduceLE, Int.reduceEq, Int.reduceLT, Nat.reduceEqDiff, Nat.reduceAdd]
    refine CW_seq (CW_region ?_)
    simp only [zZ, reduceIte, Nat.reduceLT, Int.reduceToNat, Int.reduceLE, Int.reduceEq, Int.reduceLT, Nat.reduceEqDiff, Nat.reduceAdd, zHex]
    refine CW_seq (CW_seq (CW_region ?_))
    simp only [zZ, reduceIte, Nat.reduceLT, Int.reduceToNat, Int.reduceLE, Int.reduceEq, Int.reduceLT, Nat.reduceEqDiff, Nat.reduceAdd, zHex]
    have hne : s ≠ ⟨#[]⟩ := by rw [beqB_dec] at h; exact of_decide_eq_false h
    have hbs : bsize s = s.size := rfl
    have rb : ∀ (σ : Nat → Option Nat) (q : List UInt8), renL (ren σ 4) (bytesV q) = some (bytesV q) := fun σ q => renL_flat fun x hx => by
      simp only [bytesV, List.mem_map] at hx
      obtain ⟨y, _, rfl⟩ := hx
      rfl
    obtain ⟨L, hL⟩ : ∃ L, L = s.data.toList := ⟨_, rfl⟩
    have hLl : L.length = s.size := by rw [hL]; rfl
    refine CW_block (BW_loop hc (fun n f l => ∃ (t : Nat) (V : Value), t + n = L.length ∧ f = [(0, .string s), (3, V), (8, .int .i64 (L.length : Int)), (9, .int .i64 (t : Int))] ∧
      ((t = 0 ∧ V = .slice none 0 0 ∧ l = []) ∨ (0 < t ∧ V = .slice (some ⟨m.size + 0, 0, none⟩) (2 * t) (2 * t) ∧ l = [some (some (.cells false 1 (bytesV (hexL (L.take t)))))]))) L.length ?_ ?_)
    · refine ⟨_, rfl, [], [0, 3, 8, 9], rfl, ?_⟩
      simp only [zZ, reduceIte, Nat.reduceLT, Int.reduceToNat, Int.reduceLE, Int.reduceEq, Int.reduceLT, Nat.reduceEqDiff, Nat.reduceAdd, zG, hbs, hLl]
      exact ⟨0, _, by omega, rfl, .inl ⟨rfl, rfl⟩⟩
    · rintro n f l ⟨t, V, htn, rfl, hV⟩
      refine CW_seq (CW_region ?_)
      simp only [zZ, reduceIte, Nat.reduceLT, Int.reduceToNat, Int.reduceLE, Int.reduceEq, Int.reduceLT, Nat.reduceEqDiff, Nat.reduceAdd, zHex]
      refine CW_seq (CW_cond (decide ((t : Int) < (L.length : Int))) (by rfl) (fun h => CW_skip ?_) (fun h => CW_exit ?_))
      · simp only [zZ, reduceIte, Nat.reduceLT, Int.reduceToNat, Int.reduceLE, Int.reduceEq, Int.reduceLT, Nat.reduceEqDiff, Nat.reduceAdd]
        have htl : t < L.length := by have := of_decide_eq_true h; omega
        refine CW_seq (CW_block (CW_seq (CW_region ?_)))
        simp only [zZ, reduceIte, Nat.reduceLT, Int.reduceToNat, Int.reduceLE, Int.reduceEq, Int.reduceLT, Nat.reduceEqDiff, Nat.reduceAdd, zHex]
        obtain ⟨b, hb⟩ : ∃ b, L[t]? = some b := ⟨_, List.getElem?_eq_getElem htl⟩
        have hi : aIndex Tryz.prog 9 (.string s) (.int .i64 (t : Int)) = some (byteV b) := by
          rw [index_str s t t rfl (by omega), ← hL, List.getD_eq_getElem?_getD, hb]; rfl
        refine CW_draw hmix 12 (by kernel_rfl) (by kernel_rfl) ?_
        simp only [zZ, reduceIte, Nat.reduceLT, Int.reduceToNat, Int.reduceLE, Int.reduceEq, Int.reduceLT, Nat.reduceEqDiff, Nat.reduceAdd, zHex, hi, byteV, digs_hi, digs_lo, new_two]
        have xi : IntKind.i64.wrap ((t : Int) + 1) = ((t + 1 : Nat) : Int) := by rw [wr (by omega) (by omega)]; omega
        have hx1 : hexL (L.take (t + 1)) = hexL (L.take t) ++ [digit (b.toNat / 16), digit (b.toNat % 16)] := by
          rw [List.take_add_one, hb]; simp [hexL]
        have hx2 : (hexL (L.take t)).length = 2 * t := by
          have : ∀ q : List UInt8, (hexL q).length = 2 * q.length := fun q => by
            induction q with
            | nil => rfl
            | cons x q ih => simp only [hexL, List.flatMap_cons, List.length_append, List.length_cons, List.length_nil] at ih ⊢; omega
          rw [this, List.length_take]; omega
        rcases hV with ⟨rfl, rfl, rfl⟩ | ⟨ht0, rfl, rfl⟩
        · have ha : aAppend Tryz.prog (ext m [some (some (.cells false 1 [.int .u8 (digit (b.toNat / 16)).toNat, .int .u8 (digit (b.toNat % 16)).toNat]))]) 44 44 (.slice none 0 0) (.slice (some ⟨m.size + 0, 0, none⟩) 2 2) =
              some (.slice (some ⟨m.size + 1, 0, none⟩) 2 2, ext m [some (some (.cells false 1 [.int .u8 (digit (b.toNat / 16)).toNat, .int .u8 (digit (b.toNat % 16)).toNat])), some (some (.cells false 1 [.int .u8 (digit (b.toNat / 16)).toNat, .int .u8 (digit (b.toNat % 16)).toNat]))]) :=
            bapp_nil Tryz.underlying44 inf_u8 u8_zero u8_size rfl m _ (src_block Tryz.underlying44 (by rw [ext_get]; rfl) rfl) (by decide) (by rw [u8_bytes]; decide) (by decide)
          simp only [zZ, reduceIte, Nat.reduceLT, Int.reduceToNat, Int.reduceLE, Int.reduceEq, Int.reduceLT, Nat.reduceEqDiff, Nat.reduceAdd, List.nil_append, List.length_nil, ha]
          refine CW_region ?_
          simp only [zZ, reduceIte, Nat.reduceLT, Int.reduceToNat, Int.reduceLE, Int.reduceEq, Int.reduceLT, Nat.reduceEqDiff, Nat.reduceAdd, xi]
          refine ⟨_, rfl, [1], [0, 3, 8, 9], rfl, ?_⟩
          simp only [zZ, reduceIte, Nat.reduceLT, Int.reduceToNat, Int.reduceLE, Int.reduceEq, Int.reduceLT, Nat.reduceEqDiff, Nat.reduceAdd, zG]
          exact ⟨n - 1, ⟨0 + 1, _, by omega, rfl, .inr ⟨by omega, rfl, by rw [hx1]; rfl⟩⟩, by omega⟩
        · have hx3 : bytesV (hexL (L.take t)) ++ [.int .u8 (digit (b.toNat / 16)).toNat, .int .u8 (digit (b.toNat % 16)).toNat] = bytesV (hexL (L.take (t + 1))) := by rw [hx1]; simp [bytesV, byteV]
          have hlb : (bytesV (hexL (L.take t))).length = 2 * t := by simp [bytesV, hx2]
          have ha : aAppend Tryz.prog (ext m [some (some (.cells false 1 (bytesV (hexL (L.take t))))), some (some (.cells false 1 [.int .u8 (digit (b.toNat / 16)).toNat, .int .u8 (digit (b.toNat % 16)).toNat]))]) 44 44 (.slice (some ⟨m.size + 0, 0, none⟩) (2 * t) (2 * t)) (.slice (some ⟨m.size + 1, 0, none⟩) 2 2) =
              some (.slice (some ⟨m.size + 2, 0, none⟩) (2 * t + 2) (2 * t + 2), ext m [some none, some (some (.cells false 1 [.int .u8 (digit (b.toNat / 16)).toNat, .int .u8 (digit (b.toNat % 16)).toNat])), some (some (.cells false 1 (bytesV (hexL (L.take t)) ++ [.int .u8 (digit (b.toNat / 16)).toNat, .int .u8 (digit (b.toNat % 16)).toNat])))]) :=
            bapp Tryz.underlying44 inf_u8 u8_zero u8_size rfl m _ (src_block Tryz.underlying44 (by rw [ext_get]; rfl) rfl) (by decide) rfl (by rw [hlb]; omega) (by rw [u8_bytes]; omega) (by omega)
          rw [hx3] at ha
          simp only [zZ, reduceIte, Nat.reduceLT, Int.reduceToNat, Int.reduceLE, Int.reduceEq, Int.reduceLT, Nat.reduceEqDiff, Nat.reduceAdd, List.cons_append, List.nil_append, List.length_cons, List.length_nil, ha]
          refine CW_region ?_
          simp only [zZ, reduceIte, Nat.reduceLT, Int.reduceToNat, Int.reduceLE, Int.reduceEq, Int.reduceLT, Nat.reduceEqDiff, Nat.reduceAdd, xi]
          refine ⟨_, rfl, [2], [0, 3, 8, 9], rfl, ?_⟩
          simp only [zZ, reduceIte, Nat.reduceLT, Int.reduceToNat, Int.reduceLE, Int.reduceEq, Int.reduceLT, Nat.reduceEqDiff, Nat.reduceAdd, zG, rb]
          exact ⟨n - 1, ⟨t + 1, _, by omega, rfl, .inr ⟨by omega, by congr 1, rfl⟩⟩, by omega⟩
      · have htl : t = L.length := by have := of_decide_eq_false h; omega
        subst htl
        simp only [zZ, reduceIte, Nat.reduceLT, Int.reduceToNat, Int.reduceLE, Int.reduceEq, Int.reduceLT, Nat.reduceEqDiff, Nat.reduceAdd]
        refine CW_seq (CW_region ?_)
        rcases hV with ⟨h0, rfl, rfl⟩ | ⟨ht0, rfl, rfl⟩
        · exact absurd (ByteArray.ext (Array.ext' (by rw [← hL]; exact List.eq_nil_of_length_eq_zero h0))) hne
        · simp only [zZ, reduceIte, Nat.reduceLT, Int.reduceToNat, Int.reduceLE, Int.reduceEq, Int.reduceLT, Nat.reduceEqDiff, Nat.reduceAdd, zHex]
          have hl2 : 2 * L.length = (hexL (L.take L.length)).length := by
            have : ∀ q : List UInt8, (hexL q).length = 2 * q.length := fun q => by
              induction q with
              | nil => rfl
              | cons x q ih => simp only [hexL, List.flatMap_cons, List.length_append, List.length_cons, List.length_nil] at ih ⊢; omega
            rw [this, List.length_take, Nat.min_self]
          rw [to_str (ro := false) (st := 1) (l := hexL (L.take L.length)) (by rw [ext_get]; rfl) hl2]
          simp only [zZ, reduceIte, Nat.reduceLT, Int.reduceToNat, Int.reduceLE, Int.reduceEq, Int.reduceLT, Nat.reduceEqDiff, Nat.reduceAdd]
          refine CW_ret ?_
          simp only [zZ, reduceIte, Nat.reduceLT, Int.reduceToNat, Int.reduceLE, Int.reduceEq, Int.reduceLT, Nat.reduceEqDiff, Nat.reduceAdd, zHex, bEnd, sAnswer, sAnswer.sRes]
          refine told_flat rfl ?_
          rw [List.take_length, ← hL]
          unfold hexV
          rw [if_neg fun e => hne (ByteArray.ext (Array.ext' (by rw [← hL]; exact e)))]
end Go.Proofs.YtabffcplbjaklaaGreatDoor
