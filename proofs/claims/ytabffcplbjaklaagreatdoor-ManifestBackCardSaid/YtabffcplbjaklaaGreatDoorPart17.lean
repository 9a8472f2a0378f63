/-
  The walk of the law ManifestBack.
-/
import Derived.Test.YtabffcplbjaklaaGreatDoorPart11
import Derived.Test.YtabffcplbjaklaaGreatDoorPart16
set_option linter.unusedSimpArgs false
set_option linter.unusedVariables false
set_option linter.unusedSectionVars false
set_option linter.unnecessarySimpa false
set_option linter.defProp false
namespace Go.Proofs.YtabffcplbjaklaaGreatDoor
open Go.RowKit Abs Stab
theorem sortErr_tail {p : Option Header} {h : Header} {r : List Header} (he : sortErr p (h :: r) = 0) : sortErr (some h) r = 0 ∧ ∀ q, p = some q → q.id ≠ h.id := by
  rw [sortErr_cons] at he
  cases hm : mayH h with
  | false => rw [if_pos hm] at he; cases he
  | true =>
    rw [if_neg (by rw [hm]; simp)] at he
    rcases p with _ | q
    · exact ⟨by simpa using he, fun q hq => by cases hq⟩
    · by_cases hd : q.id = h.id
      · simp [hd] at he
      · exact ⟨by simpa [hd] using he, fun q' hq => by cases hq; exact hd⟩
theorem sortErr_diff : ∀ {R : List Header} {p : Option Header}, sortErr p R = 0 → ∀ (i : Nat) (x y : Header), R[i]? = some x → R[i + 1]? = some y → x.id ≠ y.id
  | [], _, _, i, x, y, hx, _ => by simp at hx
  | h :: r, p, he, 0, x, y, hx, hy => by
    simp only [List.getElem?_cons_zero, Option.some.injEq] at hx
    subst hx
    cases r with
    | nil => simp at hy
    | cons z r' =>
      simp only [Nat.zero_add, List.getElem?_cons_succ, List.getElem?_cons_zero, Option.some.injEq] at hy
      subst hy
      exact (sortErr_tail (sortErr_tail he).1).2 h rfl
  | h :: r, p, he, i + 1, x, y, hx, hy => sortErr_diff (sortErr_tail he).1 i x y (by simpa using hx) (by simpa using hy)
theorem strict_of {L R : List Header} (hst : Stable hid L R) (he : sortErr none R = 0) : Strict R := by
  intro i x y hx hy
  have h1 := sortErr_diff he i x y hx hy
  have h2 := hst.rising
  unfold Rising at h2
  rw [List.pairwise_iff_getElem] at h2
  obtain ⟨hi, rfl⟩ := List.getElem?_eq_some_iff.1 hx
  obtain ⟨hj, rfl⟩ := List.getElem?_eq_some_iff.1 hy
  have := h2 i (i + 1) hi hj (by omega)
  unfold hid at this
  omega
theorem digit_inj : ∀ a b : Fin 16, digit a.val = digit b.val → a = b := by decide
theorem digit_inj' {a b : Nat} (ha : a < 16) (hb : b < 16) (h : digit a = digit b) : a = b := by
  have := digit_inj ⟨a, ha⟩ ⟨b, hb⟩ h
  exact congrArg Fin.val this
theorem hexL_inj : ∀ {l l' : List UInt8}, hexL l = hexL l' → l = l'
  | [], [], _ => rfl
  | [], y :: r', h => by simp [hexL] at h
  | x :: r, [], h => by simp [hexL] at h
  | x :: r, y :: r', h => by
    simp only [hexL, List.flatMap_cons, List.cons_append, List.nil_append, List.cons.injEq] at h
    obtain ⟨h1, h2, h3⟩ := h
    have hx := x.toNat_lt
    have hy := y.toNat_lt
    have e1 := digit_inj' (by omega) (by omega) h1
    have e2 := digit_inj' (by omega) (by omega) h2
    have : x = y := UInt8.toNat_inj.1 (by omega)
    rw [this, hexL_inj (l := r) (l' := r') h3]
theorem putV_same {k o : ByteArray} {R : List Header} (h : Sha.tag k.data.toList (bodyOf R) = Sha.tag o.data.toList (bodyOf R)) : putV k R = putV o R := by
  unfold putV; rw [h]
theorem putV_diff {k o : ByteArray} {R : List Header} (h : putV k R = putV o R) : Sha.tag k.data.toList (bodyOf R) = Sha.tag o.data.toList (bodyOf R) := by
  unfold putV at h
  have h1 := List.append_cancel_right h
  have h2 := List.append_cancel_left h1
  rw [hexV_full, hexV_full] at h2
  · exact hexL_inj h2
  · intro e; have := tag_len32 o.data.toList (bodyOf R); rw [e] at this; cases this
  · intro e; have := tag_len32 k.data.toList (bodyOf R); rw [e] at this; cases this
set_option maxRecDepth 100000 in
set_option maxHeartbeats 4000000 in
theorem man_back (key other : ByteArray) (M : Mem) (v : Value) (L : List Header) (hr : Rd M 7 v L.length (L.flatMap Header.cells)) :
    Abs.Spec Tryz.prog 4 [.string key, .string other, v] M fun u _ => u = .bool true := by
  refine Abs.Spec.walkM Tryz.func4 (by rfl) _ Tryz.results4 _ Tryz.ntmps4 (by simp) ?_
  intro hc hx k
  have zemp : (⟨#[]⟩ : ByteArray) = str [] := rfl
  refine CW_seq (CW_region ?_)
  simp only [zZ, reduceIte, Nat.reduceLT, Int.reduceToNat, Int.reduceLE, Int.reduceEq, Int.reduceLT, Nat.reduceEqDiff, Nat.reduceAdd, zMn]
  refine CW_seq (CW_region ?_)
  simp only [zZ, reduceIte, Nat.reduceLT, Int.reduceToNat, Int.reduceLE, Int.reduceEq, Int.reduceLT, Nat.reduceEqDiff, Nat.reduceAdd, zMn]
  refine ⟨by kernel_rfl, _, few_spec M v L hr, ?_⟩
  rintro V M1 ⟨⟨S, hown, hok, _⟩, hold1, hs1⟩
  simp only [zZ, reduceIte, Nat.reduceLT, Int.reduceToNat, Int.reduceLE, Int.reduceEq, Int.reduceLT, Nat.reduceEqDiff, Nat.reduceAdd, zMn]
  have hbs : bsize key = key.size := rfl
  have hbo : bsize other = other.size := rfl
  cases q0 : decide ((bsize key : Int) > 500) <;> cases q1 : decide ((bsize other : Int) > 500)
  case true.false | true.true | false.true =>
    refine CW_seq (CW_seq (CW_region ?_))
    simp only [zZ, reduceIte, Nat.reduceLT, Int.reduceToNat, Int.reduceLE, Int.reduceEq, Int.reduceLT, Nat.reduceEqDiff, Nat.reduceAdd, zMn, q0, q1]
    refine CW_cond true (by rfl) (fun _ => CW_seq (CW_region ?_)) (fun h => by cases h)
    simp only [zZ, reduceIte, Nat.reduceLT, Int.reduceToNat, Int.reduceLE, Int.reduceEq, Int.reduceLT, Nat.reduceEqDiff, Nat.reduceAdd, zMn]
    refine ⟨by kernel_rfl, _, awake46_spec _, ?_⟩
    rintro _ M6 rfl
    simp only [zZ, reduceIte, Nat.reduceLT, Int.reduceToNat, Int.reduceLE, Int.reduceEq, Int.reduceLT, Nat.reduceEqDiff, Nat.reduceAdd, zMn]
    refine CW_ret ?_
    simp only [zZ, reduceIte, Nat.reduceLT, Int.reduceToNat, Int.reduceLE, Int.reduceEq, Int.reduceLT, Nat.reduceEqDiff, Nat.reduceAdd, zMn, mEnd, sAnswer, sAnswer.sRes]
    exact ⟨M6, Thin.refl _⟩
  refine CW_seq (CW_seq (CW_region ?_))
  have l0 := of_decide_eq_false q0
  have l1 := of_decide_eq_false q1
  have hkl : key.size ≤ 1000000 := by rw [hbs] at l0; omega
  have hol : other.size ≤ 1000000 := by rw [hbo] at l1; omega
  simp only [zZ, reduceIte, Nat.reduceLT, Int.reduceToNat, Int.reduceLE, Int.reduceEq, Int.reduceLT, Nat.reduceEqDiff, Nat.reduceAdd, zMn, q0, q1]
  refine CW_cond false (by rfl) (fun h => by cases h) (fun _ => CW_skip ?_)
  simp only [zZ, reduceIte, Nat.reduceLT, Int.reduceToNat, Int.reduceLE, Int.reduceEq, Int.reduceLT, Nat.reduceEqDiff, Nat.reduceAdd]
  have hSl : S.length ≤ 1000 := by have := hok.1; omega
  obtain ⟨a0, c0, hV0⟩ := hown.len
  subst hV0
  have q00 : ((0 : Int) != 0) = false := rfl
  have q0e : ((0 : Int) == 0) = true := rfl
  have q4e : ((4 : Int) == 4) = true := rfl
  have bemp : beqB (str []) (str []) = true := by rw [beqB_dec]; exact decide_eq_true rfl
  refine CW_seq (CW_region ?_)
  simp only [zZ, reduceIte, Nat.reduceLT, Int.reduceToNat, Int.reduceLE, Int.reduceEq, Int.reduceLT, Nat.reduceEqDiff, Nat.reduceAdd, zMn]
  refine ⟨by kernel_rfl, _, put_spec key hkl M.size M1 _ S hown hSl (few_small hok), ?_⟩
  rintro u1 M2 ⟨hold2, hs2, hp1⟩
  have bad : ∀ e : Int, e ≠ 0 → u1 = .tuple #[.string (str []), .int .i64 e] → True := fun _ _ _ => trivial
  have hown2 : HdrsOwn M.size M2 (.slice a0 S.length c0) S := by
    refine hown.same fun b x hb hx => ?_
    exact hold2 b x (hown.live hb).2 hx
  obtain ⟨e, he0, rfl⟩ | ⟨R, hst, h256, he, rfl⟩ : (∃ e : Int, e ≠ 0 ∧ u1 = .tuple #[.string (str []), .int .i64 e]) ∨ ∃ R, Stable hid S R ∧ ¬ 256 < S.length ∧ sortErr none R = 0 ∧ u1 = .tuple #[.string (str (putV key R)), .int .i64 0] := by
    rcases hp1 with ⟨_, h2⟩ | ⟨h0, R, h1, ⟨h2, h3⟩ | ⟨h2, h3⟩⟩
    · exact .inl ⟨3, by decide, h2⟩
    · exact .inr ⟨R, h1, h0, h2, h3⟩
    · exact .inl ⟨_, h2, h3⟩
  · have qe : (e != 0) = true := by simpa using he0
    simp only [zZ, reduceIte, Nat.reduceLT, Int.reduceToNat, Int.reduceLE, Int.reduceEq, Int.reduceLT, Nat.reduceEqDiff, Nat.reduceAdd, zMn]
    refine CW_seq (CW_seq (CW_region ?_))
    simp only [zZ, reduceIte, Nat.reduceLT, Int.reduceToNat, Int.reduceLE, Int.reduceEq, Int.reduceLT, Nat.reduceEqDiff, Nat.reduceAdd, zMn, qe]
    refine CW_cond true (by rfl) (fun _ => CW_seq (CW_region ?_)) (fun h => by cases h)
    simp only [zZ, reduceIte, Nat.reduceLT, Int.reduceToNat, Int.reduceLE, Int.reduceEq, Int.reduceLT, Nat.reduceEqDiff, Nat.reduceAdd, zMn, zemp, bemp]
    refine ⟨by kernel_rfl, _, awake46_spec _, ?_⟩
    rintro _ M6 rfl
    simp only [zZ, reduceIte, Nat.reduceLT, Int.reduceToNat, Int.reduceLE, Int.reduceEq, Int.reduceLT, Nat.reduceEqDiff, Nat.reduceAdd, zMn]
    refine CW_ret ?_
    simp only [zZ, reduceIte, Nat.reduceLT, Int.reduceToNat, Int.reduceLE, Int.reduceEq, Int.reduceLT, Nat.reduceEqDiff, Nat.reduceAdd, zMn, mEnd, sAnswer, sAnswer.sRes]
    exact ⟨M6, Thin.refl _⟩
  have hmay := sortErr_may he
  have hstr := strict_of hst he
  have hRl : R.length = S.length := hst.len
  have hR256 : R.length ≤ 256 := by omega
  have htk := fun (k2 : ByteArray) (h : k2.size ≤ 1000000) (m : Mem) => take_spec key k2 h R hmay hstr hR256 m
  have hsame : sameB (Sha.tag key.data.toList (bodyOf R)) (Sha.tag key.data.toList (bodyOf R)) = true := decide_eq_true rfl
  obtain ⟨T, hT⟩ : ∃ T, T = putV key R := ⟨_, rfl⟩
  rw [← hT] at htk ⊢
  simp only [zZ, reduceIte, Nat.reduceLT, Int.reduceToNat, Int.reduceLE, Int.reduceEq, Int.reduceLT, Nat.reduceEqDiff, Nat.reduceAdd, zMn]
  refine CW_seq (CW_seq (CW_region ?_))
  simp only [zZ, reduceIte, Nat.reduceLT, Int.reduceToNat, Int.reduceLE, Int.reduceEq, Int.reduceLT, Nat.reduceEqDiff, Nat.reduceAdd, zMn]
  refine CW_cond false (by rfl) (fun h => by cases h) (fun _ => CW_skip ?_)
  simp only [zZ, reduceIte, Nat.reduceLT, Int.reduceToNat, Int.reduceLE, Int.reduceEq, Int.reduceLT, Nat.reduceEqDiff, Nat.reduceAdd]
  refine CW_seq (CW_region ?_)
  simp only [zZ, reduceIte, Nat.reduceLT, Int.reduceToNat, Int.reduceLE, Int.reduceEq, Int.reduceLT, Nat.reduceEqDiff, Nat.reduceAdd, zMn]
  refine ⟨by kernel_rfl, _, htk key hkl M2, ?_⟩
  rintro u M3 ⟨hold3, hs3, ht3⟩
  rw [hsame] at ht3
  obtain ⟨V3, rfl, hown3⟩ := ht3
  obtain ⟨a3, c3, hV3⟩ := hown3.len
  subst hV3
  simp only [zZ, reduceIte, Nat.reduceLT, Int.reduceToNat, Int.reduceLE, Int.reduceEq, Int.reduceLT, Nat.reduceEqDiff, Nat.reduceAdd, zMn]
  have hown4 : HdrsOwn M.size M3 (.slice a0 S.length c0) S := by
    refine hown2.same fun b x hb hx => ?_
    exact hold3 b x (hown2.live hb).2 hx
  refine CW_seq (CW_seq (CW_region ?_))
  simp only [zZ, reduceIte, Nat.reduceLT, Int.reduceToNat, Int.reduceLE, Int.reduceEq, Int.reduceLT, Nat.reduceEqDiff, Nat.reduceAdd, zMn, q00]
  refine ⟨by kernel_rfl, _, rsort_spec M.size M3 _ S hown4 hSl, ?_⟩
  rintro V5 M5 ⟨hold5, hs5, R', hst', hown5⟩
  obtain rfl := Stable.unique hid hst hst'
  obtain ⟨a5, c5, hV5⟩ := hown5.len
  subst hV5
  simp only [zZ, reduceIte, Nat.reduceLT, Int.reduceToNat, Int.reduceLE, Int.reduceEq, Int.reduceLT, Nat.reduceEqDiff, Nat.reduceAdd, zMn]
  have hown35 : HdrsOwn M2.size M5 (.slice a3 R.length c3) R := hown3.same fun b x hb hx => hold5 b x (hown3.live hb).2 hx
  refine ⟨by kernel_rfl, _, same_true _ _ M5 _ _ R hown35 hown5 (by omega), ?_⟩
  rintro _ M9 ⟨rfl, e9⟩; replace e9 := e9.symm; subst e9
  simp only [zZ, reduceIte, Nat.reduceLT, Int.reduceToNat, Int.reduceLE, Int.reduceEq, Int.reduceLT, Nat.reduceEqDiff, Nat.reduceAdd, zMn]
  refine CW_cond false (by rfl) (fun h => by cases h) (fun _ => CW_skip ?_)
  simp only [zZ, reduceIte, Nat.reduceLT, Int.reduceToNat, Int.reduceLE, Int.reduceEq, Int.reduceLT, Nat.reduceEqDiff, Nat.reduceAdd]
  refine CW_seq (CW_region ?_)
  simp only [zZ, reduceIte, Nat.reduceLT, Int.reduceToNat, Int.reduceLE, Int.reduceEq, Int.reduceLT, Nat.reduceEqDiff, Nat.reduceAdd, zMn]
  refine ⟨by kernel_rfl, _, htk other hol M5, ?_⟩
  rintro u6 M6 ⟨hold6, hs6, ht6⟩
  have hown6 : HdrsOwn M.size M6 (.slice a0 S.length c0) S := by
    refine hown4.same fun b x hb hx => ?_
    have h1 := (hown4.live hb).2
    exact hold6 b x (by omega) (hold5 b x h1 hx)
  obtain ⟨a6, n6, e6, hu6⟩ : ∃ V n e, u6 = .tuple #[V, .int .i64 n, .int .i64 e] := by
    unfold TakeIs at ht6
    split at ht6
    · obtain ⟨V, h, _⟩ := ht6; exact ⟨_, _, _, h⟩
    · exact ⟨_, _, _, ht6⟩
  subst hu6
  simp only [zZ, reduceIte, Nat.reduceLT, Int.reduceToNat, Int.reduceLE, Int.reduceEq, Int.reduceLT, Nat.reduceEqDiff, Nat.reduceAdd, zMn]
  refine CW_seq (CW_region ?_)
  simp only [zZ, reduceIte, Nat.reduceLT, Int.reduceToNat, Int.reduceLE, Int.reduceEq, Int.reduceLT, Nat.reduceEqDiff, Nat.reduceAdd, zMn]
  refine ⟨by kernel_rfl, _, put_spec other hol M.size M6 _ S hown6 hSl (few_small hok), ?_⟩
  rintro u7 M7 ⟨hold7, hs7, hp7⟩
  obtain rfl : u7 = .tuple #[.string (str (putV other R)), .int .i64 0] := by
    rcases hp7 with ⟨h1, _⟩ | ⟨_, R2, h1, ⟨h2, h3⟩ | ⟨h2, _⟩⟩
    · exact absurd h1 h256
    · rw [Stable.unique hid hst h1]; exact h3
    · rw [← Stable.unique hid hst h1] at h2; exact absurd he h2
  simp only [zZ, reduceIte, Nat.reduceLT, Int.reduceToNat, Int.reduceLE, Int.reduceEq, Int.reduceLT, Nat.reduceEqDiff, Nat.reduceAdd, zMn]
  refine CW_seq (CW_seq (CW_region ?_))
  cases qs : sameB (Sha.tag key.data.toList (bodyOf R)) (Sha.tag other.data.toList (bodyOf R))
  · rw [qs] at ht6
    have ht6 : Value.tuple #[a6, .int .i64 n6, .int .i64 e6] = .tuple #[.slice none 0 0, .int .i64 (R.length + 2 : Nat), .int .i64 4] := ht6
    simp only [Value.tuple.injEq, Array.mk.injEq, List.cons.injEq, Value.int.injEq, true_and, and_true] at ht6
    obtain ⟨rfl, rfl, rfl⟩ := ht6
    have bq : beqB (str (putV other R)) (str T) = false := by
      rw [beqB_dec]
      refine decide_eq_false fun h => ?_
      have h : putV other R = T := congrArg (fun x : ByteArray => x.data.toList) h
      rw [hT] at h
      have := of_decide_eq_false qs
      exact this (putV_diff h.symm)
    simp only [zZ, reduceIte, Nat.reduceLT, Int.reduceToNat, Int.reduceLE, Int.reduceEq, Int.reduceLT, Nat.reduceEqDiff, Nat.reduceAdd, zMn, bq, q00]
    refine CW_cond false (by rfl) (fun h => by cases h) (fun _ => CW_skip ?_)
    simp only [zZ, reduceIte, Nat.reduceLT, Int.reduceToNat, Int.reduceLE, Int.reduceEq, Int.reduceLT, Nat.reduceEqDiff, Nat.reduceAdd]
    have w2 : IntKind.i64.wrap (2 + ((S.length : Nat) : Int)) = ((R.length + 2 : Nat) : Int) := by rw [wri (by omega) (by omega)]; omega
    have c2 : ((((R.length + 2 : Nat) : Int)) == ((R.length + 2 : Nat) : Int)) = true := by simp
    refine CW_seq (CW_region ?_)
    simp only [zZ, reduceIte, Nat.reduceLT, Int.reduceToNat, Int.reduceLE, Int.reduceEq, Int.reduceLT, Nat.reduceEqDiff, Nat.reduceAdd, zMn, w2, c2, q4e]
    refine ⟨by kernel_rfl, _, awake46_spec _, ?_⟩
    rintro _ M8 rfl
    simp only [zZ, reduceIte, Nat.reduceLT, Int.reduceToNat, Int.reduceLE, Int.reduceEq, Int.reduceLT, Nat.reduceEqDiff, Nat.reduceAdd, zMn]
    refine CW_ret ?_
    simp only [zZ, reduceIte, Nat.reduceLT, Int.reduceToNat, Int.reduceLE, Int.reduceEq, Int.reduceLT, Nat.reduceEqDiff, Nat.reduceAdd, zMn, mEnd, sAnswer, sAnswer.sRes]
    exact ⟨M8, Thin.refl _⟩
  · rw [qs] at ht6
    obtain ⟨V8, h8, _⟩ := ht6
    simp only [Value.tuple.injEq, Array.mk.injEq, List.cons.injEq, Value.int.injEq, true_and, and_true] at h8
    obtain ⟨rfl, rfl, rfl⟩ := h8
    have bq : beqB (str (putV other R)) (str T) = true := by
      rw [beqB_dec]
      refine decide_eq_true ?_
      rw [hT, putV_same (of_decide_eq_true qs)]
    simp only [zZ, reduceIte, Nat.reduceLT, Int.reduceToNat, Int.reduceLE, Int.reduceEq, Int.reduceLT, Nat.reduceEqDiff, Nat.reduceAdd, zMn, bq, q00]
    refine CW_cond true (by rfl) (fun _ => CW_seq (CW_region ?_)) (fun h => by cases h)
    simp only [zZ, reduceIte, Nat.reduceLT, Int.reduceToNat, Int.reduceLE, Int.reduceEq, Int.reduceLT, Nat.reduceEqDiff, Nat.reduceAdd, zMn, q0e]
    refine ⟨by kernel_rfl, _, awake46_spec _, ?_⟩
    rintro _ M8 rfl
    simp only [zZ, reduceIte, Nat.reduceLT, Int.reduceToNat, Int.reduceLE, Int.reduceEq, Int.reduceLT, Nat.reduceEqDiff, Nat.reduceAdd, zMn]
    refine CW_ret ?_
    simp only [zZ, reduceIte, Nat.reduceLT, Int.reduceToNat, Int.reduceLE, Int.reduceEq, Int.reduceLT, Nat.reduceEqDiff, Nat.reduceAdd, zMn, mEnd, sAnswer, sAnswer.sRes]
    exact ⟨M8, Thin.refl _⟩
end Go.Proofs.YtabffcplbjaklaaGreatDoor
