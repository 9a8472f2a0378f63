/-
  The walk of the law ManifestBack.
  The walks of Hold's searches, and of the reference's find.
  Lists of one's own, of whatever elements, in memory.
  Numbers of one's own: sorted; told once.
  The walk of manifest.Hold.
  The walks of the reference's add and Hold, of Same.
  The walks of the reference's Hold, of Same.
  The walk of the law ManifestHolds.
-/
import Derived.Test.YtabffcplbjaklaaGreatDoorPart11
import Derived.Test.YtabffcplbjaklaaGreatDoorPart16
import Derived.Test.YtabffcplbjaklaaGreatDoorPart08
import Derived.Test.YtabffcplbjaklaaGreatDoorPart09
import Derived.Test.YtabffcplbjaklaaGreatDoorPart10
import Derived.Shelf.Slices.Cells
set_option linter.unusedSimpArgs false
set_option linter.unusedVariables false
set_option linter.unusedSectionVars false
set_option linter.unnecessarySimpa false
set_option linter.defProp false
namespace Go.Proofs.YtabffcplbjaklaaGreatDoor
open Go.RowKit Abs Stab
end Go.Proofs.YtabffcplbjaklaaGreatDoor
namespace Go.Proofs.YtabffcplbjaklaaGreatDoor
open Go.RowKit Abs
def findZ : List Header → Int → Nat → Int
  | [], _, _ => -1
  | h :: r, id, i => if h.id = id then (i : Nat) else findZ r id (i + 1)
def findH (L : List Header) (id : Int) : Int := findZ L id 0
theorem findZ_none : ∀ {L : List Header} {id : Int} (i : Nat), (∀ h ∈ L, h.id ≠ id) → findZ L id i = -1
  | [], _, _, _ => rfl
  | h :: r, id, i, hn => by rw [findZ, if_neg (hn h (by simp))]; exact findZ_none (i + 1) fun x hx => hn x (by simp [hx])
theorem findZ_some : ∀ {L : List Header} {id : Int} (i j : Nat) (x : Header), L[j]? = some x → x.id = id → (∀ k y, k < j → L[k]? = some y → y.id ≠ id) → findZ L id i = ((i + j : Nat) : Int)
  | [], _, _, _, _, hx, _, _ => by simp at hx
  | h :: r, id, i, 0, x, hx, he, _ => by
    simp only [List.getElem?_cons_zero, Option.some.injEq] at hx
    subst hx
    rw [findZ, if_pos he]; rfl
  | h :: r, id, i, j + 1, x, hx, he, hn => by
    rw [findZ, if_neg (hn 0 h (by omega) rfl), findZ_some (i + 1) j x (by simpa using hx) he fun k y hk hy => hn (k + 1) y (by omega) (by simpa using hy)]
    congr 1; omega
theorem findH_at {L : List Header} {id : Int} {j : Nat} {x : Header} (hx : L[j]? = some x) (he : x.id = id) (hn : ∀ k y, k < j → L[k]? = some y → y.id ≠ id) : findH L id = (j : Int) := by
  unfold findH; rw [findZ_some 0 j x hx he hn]; congr 1; omega
theorem findH_none {L : List Header} {id : Int} (hn : ∀ k y, k < L.length → L[k]? = some y → y.id ≠ id) : findH L id = -1 := by
  unfold findH
  refine findZ_none 0 fun h hh => ?_
  obtain ⟨k, hk, e⟩ := List.getElem_of_mem hh
  exact hn k h hk (by rw [List.getElem?_eq_getElem hk, e])
theorem findZ_cases : ∀ (L : List Header) (id : Int) (i : Nat), (findZ L id i = -1 ∧ ∀ h ∈ L, h.id ≠ id) ∨ ∃ j x, findZ L id i = ((i + j : Nat) : Int) ∧ L[j]? = some x ∧ x.id = id
  | [], _, _ => .inl ⟨rfl, fun h hh => by cases hh⟩
  | h :: r, id, i => by
    rw [findZ]
    by_cases e : h.id = id
    · rw [if_pos e]; exact .inr ⟨0, h, rfl, rfl, e⟩
    · rw [if_neg e]
      rcases findZ_cases r id (i + 1) with ⟨h1, h2⟩ | ⟨j, x, h1, h2, h3⟩
      · exact .inl ⟨h1, fun y hy => by exact (List.mem_cons.1 hy).elim (fun q => q ▸ e) (h2 y)⟩
      · exact .inr ⟨j + 1, x, by rw [h1]; congr 1; omega, by simpa using h2, h3⟩
theorem findH_cases (L : List Header) (id : Int) : (findH L id = -1 ∧ ∀ h ∈ L, h.id ≠ id) ∨ ∃ (j : Nat) (x : Header), findH L id = (j : Int) ∧ L[j]? = some x ∧ x.id = id := by
  rcases findZ_cases L id 0 with h | ⟨j, x, h1, h2, h3⟩
  · exact .inl h
  · exact .inr ⟨j, x, by unfold findH; rw [h1]; congr 1; omega, h2, h3⟩
theorem HdrsOwn.at {k : Nat} {M : Mem} {a : Option Addr} {n c : Nat} {L : List Header} (h : HdrsOwn k M (.slice a n c) L) {i : Nat} {x : Header} (hx : L[i]? = some x) : ∃ g, a = some ⟨g, 0, none⟩ ∧ HdrsIn M g L := by
  rcases h with ⟨h1, _⟩ | ⟨h1, g, h2, h3, h4⟩
  · rw [h1] at hx; cases hx
  · cases h3; exact ⟨g, rfl, h4⟩
structure Grown (M M' : Mem) : Prop where
  get : ∀ b x, M.get b = some x → M'.get b = some x
  size : M.size ≤ M'.size
theorem Grown.refl (M : Mem) : Grown M M := ⟨fun _ _ h => h, Nat.le_refl _⟩
theorem Grown.trans {M M' M'' : Mem} (h : Grown M M') (k : Grown M' M'') : Grown M M'' := ⟨fun b x hb => k.get b x (h.get b x hb), Nat.le_trans h.size k.size⟩
theorem Grown.push (M : Mem) (y : Blk) : Grown M (M.push y) := ⟨fun b x hb => by rw [Mem.get_push_old (get_live hb)]; exact hb, by rw [Mem.size_push]; omega⟩
set_option maxRecDepth 100000 in
set_option maxHeartbeats 2000000 in
theorem eqid_spec (x : Header) (b s : Nat) (ro : Bool) (id : Int) (M : Mem) (hb : M.get b = some (.cells ro s [.int .i64 id])) :
    Abs.Spec Tryz.prog 34 [.agg x.cells.toArray, .pointer (some ⟨b, 0, none⟩)] M fun u M' => u = .bool (x.id == id) ∧ Grown M M' := by
  refine Abs.Spec.walkM Tryz.func34 (by rfl) _ Tryz.results34 _ Tryz.ntmps34 (by simp) ?_
  intro hc hx k
  have b1 : nBox Tryz.prog 40 (.agg x.cells.toArray) = some (.cells false (aStride Tryz.prog 40) x.cells) := bx_Hdr _ rfl
  generalize aStride Tryz.prog 40 = s1 at b1
  have c1 : cellIn 0 (some (.cells false s1 x.cells)) = some (.int .i64 x.id) := rfl
  have hb' : ∀ y, (M.push y).get b = some (.cells ro s [.int .i64 id]) := fun y => by rw [Mem.get_push_old (get_live hb)]; exact hb
  have c2 : cellIn 0 (some (.cells ro s [.int .i64 id])) = some (.int .i64 id) := rfl
  refine CW_seq (CW_region ?_)
  simp only [zZ, reduceIte, Nat.reduceLT, Int.reduceToNat, Int.reduceLE, Int.reduceEq, Int.reduceLT, Nat.reduceEqDiff, Nat.reduceAdd, zMn, b1]
  refine CW_seq (CW_region ?_)
  simp only [zZ, reduceIte, Nat.reduceLT, Int.reduceToNat, Int.reduceLE, Int.reduceEq, Int.reduceLT, Nat.reduceEqDiff, Nat.reduceAdd, zMn, Mem.get_push_new, hb', c1, c2]
  refine CW_ret ?_
  simp only [zZ, reduceIte, Nat.reduceLT, Int.reduceToNat, Int.reduceLE, Int.reduceEq, Int.reduceLT, Nat.reduceEqDiff, Nat.reduceAdd, zMn, mEnd, sAnswer, sAnswer.sRes]
  exact ⟨_, Thin.refl _, Grown.push _ _⟩
set_option maxRecDepth 100000 in
set_option maxHeartbeats 2000000 in
theorem idx_spec (b s : Nat) (ro : Bool) (id : Int) (K : Nat) (M : Mem) (V : Value) (L : List Header) (h : HdrsOwn K M V L) (hl : L.length ≤ 1000) (hb : M.get b = some (.cells ro s [.int .i64 id])) :
    Abs.Spec Tryz.prog 33 [V, .func (.func 34) #[] #[.pointer (some ⟨b, 0, none⟩)]] M fun u M' => u = .int .i64 (findH L id) ∧ Grown M M' := by
  obtain ⟨a0, c0, hV⟩ := h.len
  subst hV
  refine Abs.Spec.walkM Tryz.func33 (by rfl) _ Tryz.results33 _ Tryz.ntmps33 (by simp) ?_
  intro hc hx k
  refine CW_seq (CW_region ?_)
  simp only [zZ, reduceIte, Nat.reduceLT, Int.reduceToNat, Int.reduceLE, Int.reduceEq, Int.reduceLT, Nat.reduceEqDiff, Nat.reduceAdd, zMn]
  refine CW_seq (CW_seq (CW_region ?_))
  simp only [zZ, reduceIte, Nat.reduceLT, Int.reduceToNat, Int.reduceLE, Int.reduceEq, Int.reduceLT, Nat.reduceEqDiff, Nat.reduceAdd, zMn]
  refine CW_block (MW_loop (fun j f M' => ∃ i : Nat, j = L.length - i ∧ f = [(0, .slice a0 L.length c0), (1, .func (.func 34) #[] #[.pointer (some ⟨b, 0, none⟩)]), (7, .int .i64 (L.length : Nat)), (8, .int .i64 (i : Nat))] ∧ i ≤ L.length ∧
    (∀ k y, k < i → L[k]? = some y → y.id ≠ id) ∧ Grown M M') L.length ?_ ?_)
  · refine ⟨[0, 1, 7, 8], ?_⟩
    simp only [zZ, reduceIte, Nat.reduceLT, Int.reduceToNat, Int.reduceLE, Int.reduceEq, Int.reduceLT, Nat.reduceEqDiff, Nat.reduceAdd, keepF]
    exact ⟨M, Thin.refl _, 0, rfl, rfl, by omega, fun k y hk => by omega, Grown.refl _⟩
  · rintro j f M' ⟨i, rfl, rfl, hi, hno, hgr⟩
    refine CW_seq (CW_region ?_)
    simp only [zZ, reduceIte, Nat.reduceLT, Int.reduceToNat, Int.reduceLE, Int.reduceEq, Int.reduceLT, Nat.reduceEqDiff, Nat.reduceAdd, zMn]
    refine CW_seq (CW_cond (decide ((i : Int) < (L.length : Int))) (by rfl) (fun hq => CW_skip ?_) (fun hq => CW_exit ?_))
    · have hiL := of_decide_eq_true hq
      obtain ⟨x, hX⟩ : ∃ x, L[i]? = some x := ⟨_, List.getElem?_eq_getElem (by omega)⟩
      obtain ⟨g, rfl, hg⟩ := h.at hX
      have z0 : (0 : Int) ≤ (i : Int) := by omega
      have r1 := hdr_row (hgr.get _ _ hg) hX
      have w9 : IntKind.i64.wrap ((i : Int) + 1) = ((i + 1 : Nat) : Int) := by rw [wri (by omega) (by omega)]; omega
      simp only [zZ, reduceIte, Nat.reduceLT, Int.reduceToNat, Int.reduceLE, Int.reduceEq, Int.reduceLT, Nat.reduceEqDiff, Nat.reduceAdd]
      refine CW_seq (CW_block (CW_seq (CW_region ?_)))
      simp only [zZ, reduceIte, Nat.reduceLT, Int.reduceToNat, Int.reduceLE, Int.reduceEq, Int.reduceLT, Nat.reduceEqDiff, Nat.reduceAdd, zMn]
      refine CW_seq (CW_region ?_)
      simp only [zZ, reduceIte, Nat.reduceLT, Int.reduceToNat, Int.reduceLE, Int.reduceEq, Int.reduceLT, Nat.reduceEqDiff, Nat.reduceAdd, zMn, z0, hiL, and_self, r1]
      refine ⟨by kernel_rfl, _, eqid_spec x b s ro id M' (hgr.get _ _ hb), ?_⟩
      rintro _ M2 ⟨rfl, hg2⟩
      have hgr2 := hgr.trans hg2
      simp only [zZ, reduceIte, Nat.reduceLT, Int.reduceToNat, Int.reduceLE, Int.reduceEq, Int.reduceLT, Nat.reduceEqDiff, Nat.reduceAdd, zMn]
      refine CW_cond (x.id == id) (by rfl) (fun he => CW_seq (CW_region ?_)) (fun he => CW_skip ?_)
      · have he : x.id = id := by simpa using he
        simp only [zZ, reduceIte, Nat.reduceLT, Int.reduceToNat, Int.reduceLE, Int.reduceEq, Int.reduceLT, Nat.reduceEqDiff, Nat.reduceAdd, zMn]
        refine CW_ret ?_
        simp only [zZ, reduceIte, Nat.reduceLT, Int.reduceToNat, Int.reduceLE, Int.reduceEq, Int.reduceLT, Nat.reduceEqDiff, Nat.reduceAdd, zMn, mEnd, sAnswer, sAnswer.sRes]
        exact ⟨M2, Thin.refl _, by rw [findH_at hX he hno], hgr2⟩
      · have he : x.id ≠ id := by simpa using he
        simp only [zZ, reduceIte, Nat.reduceLT, Int.reduceToNat, Int.reduceLE, Int.reduceEq, Int.reduceLT, Nat.reduceEqDiff, Nat.reduceAdd]
        refine CW_region ?_
        simp only [zZ, reduceIte, Nat.reduceLT, Int.reduceToNat, Int.reduceLE, Int.reduceEq, Int.reduceLT, Nat.reduceEqDiff, Nat.reduceAdd, zMn, w9]
        refine ⟨[0, 1, 7, 8], ?_⟩
        simp only [zZ, reduceIte, Nat.reduceLT, Int.reduceToNat, Int.reduceLE, Int.reduceEq, Int.reduceLT, Nat.reduceEqDiff, Nat.reduceAdd, keepF]
        refine ⟨M2, Thin.refl _, L.length - (i + 1), ⟨i + 1, rfl, rfl, by omega, fun k y hk hy => ?_, hgr2⟩, by omega⟩
        by_cases e : k = i
        · subst e; rw [hX] at hy; cases hy; exact he
        · exact hno k y (by omega) hy
    · have hiL := of_decide_eq_false hq
      simp only [zZ, reduceIte, Nat.reduceLT, Int.reduceToNat, Int.reduceLE, Int.reduceEq, Int.reduceLT, Nat.reduceEqDiff, Nat.reduceAdd]
      refine CW_seq (CW_region ?_)
      simp only [zZ, reduceIte, Nat.reduceLT, Int.reduceToNat, Int.reduceLE, Int.reduceEq, Int.reduceLT, Nat.reduceEqDiff, Nat.reduceAdd, zMn]
      refine CW_ret ?_
      simp only [zZ, reduceIte, Nat.reduceLT, Int.reduceToNat, Int.reduceLE, Int.reduceEq, Int.reduceLT, Nat.reduceEqDiff, Nat.reduceAdd, zMn, mEnd, sAnswer, sAnswer.sRes]
      refine ⟨M', Thin.refl _, ?_, hgr⟩
      rw [findH_none fun k y hk hy => hno k y (by omega) hy]
set_option maxRecDepth 100000 in
set_option maxHeartbeats 2000000 in
theorem at_spec (id : Int) (K : Nat) (M : Mem) (V : Value) (L : List Header) (h : HdrsOwn K M V L) (hl : L.length ≤ 1000) :
    Abs.Spec Tryz.prog 32 [V, .int .i64 id] M fun u M' => u = .int .i64 (findH L id) ∧ Grown M M' := by
  refine Abs.Spec.walkM Tryz.func32 (by rfl) _ Tryz.results32 _ Tryz.ntmps32 (by simp) ?_
  intro hc hx k
  have b1 : nBox Tryz.prog 3 (.int .i64 id) = some (.cells false (aStride Tryz.prog 3) [.int .i64 id]) := by rfl
  generalize aStride Tryz.prog 3 = s1 at b1
  refine CW_seq (CW_region ?_)
  simp only [zZ, reduceIte, Nat.reduceLT, Int.reduceToNat, Int.reduceLE, Int.reduceEq, Int.reduceLT, Nat.reduceEqDiff, Nat.reduceAdd, zMn, b1]
  have h2 : HdrsOwn K (M.push (.cells false s1 [.int .i64 id])) V L := h.same fun b x hb hx => by rw [Mem.get_push_old (get_live hx)]; exact hx
  refine CW_seq (CW_region ?_)
  simp only [zZ, reduceIte, Nat.reduceLT, Int.reduceToNat, Int.reduceLE, Int.reduceEq, Int.reduceLT, Nat.reduceEqDiff, Nat.reduceAdd, zMn, vFunc]
  refine ⟨by kernel_rfl, _, idx_spec M.size s1 false id K _ V L h2 hl (Mem.get_push_new _ _), ?_⟩
  rintro _ M2 ⟨rfl, hg2⟩
  simp only [zZ, reduceIte, Nat.reduceLT, Int.reduceToNat, Int.reduceLE, Int.reduceEq, Int.reduceLT, Nat.reduceEqDiff, Nat.reduceAdd, zMn]
  refine CW_ret ?_
  simp only [zZ, reduceIte, Nat.reduceLT, Int.reduceToNat, Int.reduceLE, Int.reduceEq, Int.reduceLT, Nat.reduceEqDiff, Nat.reduceAdd, zMn, mEnd, sAnswer, sAnswer.sRes]
  exact ⟨M2, Thin.refl _, (Grown.push _ _).trans hg2⟩
set_option maxRecDepth 100000 in
set_option maxHeartbeats 2000000 in
theorem rfind_spec (id : Int) (K : Nat) (M : Mem) (V : Value) (L : List Header) (h : HdrsOwn K M V L) (hl : L.length ≤ 1000) :
    Abs.Spec Tryz.prog 38 [V, .int .i64 id] M fun u M' => u = .int .i64 (findH L id) ∧ M' = M := by
  obtain ⟨a0, c0, hV⟩ := h.len
  subst hV
  refine Abs.Spec.walkM Tryz.func38 (by rfl) _ Tryz.results38 _ Tryz.ntmps38 (by simp) ?_
  intro hc hx k
  refine CW_seq (CW_region ?_)
  simp only [zZ, reduceIte, Nat.reduceLT, Int.reduceToNat, Int.reduceLE, Int.reduceEq, Int.reduceLT, Nat.reduceEqDiff, Nat.reduceAdd, zMn]
  refine CW_seq (CW_seq (CW_region ?_))
  simp only [zZ, reduceIte, Nat.reduceLT, Int.reduceToNat, Int.reduceLE, Int.reduceEq, Int.reduceLT, Nat.reduceEqDiff, Nat.reduceAdd, zMn]
  refine CW_block (MW_loop (fun j f M' => ∃ i : Nat, j = L.length - i ∧ f = [(0, .slice a0 L.length c0), (1, .int .i64 id), (5, .int .i64 (i : Nat))] ∧ i ≤ L.length ∧
    (∀ k y, k < i → L[k]? = some y → y.id ≠ id) ∧ M' = M) L.length ?_ ?_)
  · refine ⟨[0, 1, 5], ?_⟩
    simp only [zZ, reduceIte, Nat.reduceLT, Int.reduceToNat, Int.reduceLE, Int.reduceEq, Int.reduceLT, Nat.reduceEqDiff, Nat.reduceAdd, keepF]
    exact ⟨M, Thin.refl _, 0, rfl, rfl, by omega, fun k y hk => by omega, rfl⟩
  · rintro j f M' ⟨i, rfl, rfl, hi, hno, e9⟩
    replace e9 := e9.symm; subst e9
    refine CW_seq (CW_seq (CW_region ?_))
    simp only [zZ, reduceIte, Nat.reduceLT, Int.reduceToNat, Int.reduceLE, Int.reduceEq, Int.reduceLT, Nat.reduceEqDiff, Nat.reduceAdd, zMn]
    refine CW_cond (decide ((i : Int) < (L.length : Int))) (by rfl) (fun hq => CW_skip ?_) (fun hq => CW_exit ?_)
    · have hiL := of_decide_eq_true hq
      obtain ⟨x, hX⟩ : ∃ x, L[i]? = some x := ⟨_, List.getElem?_eq_getElem (by omega)⟩
      obtain ⟨g, rfl, hg⟩ := h.at hX
      unfold HdrsIn at hg
      have z0 : (0 : Int) ≤ (i : Int) := by omega
      have cx := hdr_cell hX (o := 0) (by decide) false 7 (.int .i64 x.id) rfl rfl
      rw [Nat.add_zero] at cx
      have w9 : IntKind.i64.wrap ((i : Int) + 1) = ((i + 1 : Nat) : Int) := by rw [wri (by omega) (by omega)]; omega
      simp only [zZ, reduceIte, Nat.reduceLT, Int.reduceToNat, Int.reduceLE, Int.reduceEq, Int.reduceLT, Nat.reduceEqDiff, Nat.reduceAdd]
      refine CW_seq (CW_block (CW_seq (CW_region ?_)))
      simp only [zZ, reduceIte, Nat.reduceLT, Int.reduceToNat, Int.reduceLE, Int.reduceEq, Int.reduceLT, Nat.reduceEqDiff, Nat.reduceAdd, zMn, z0, hiL, and_self, hg, cx]
      refine CW_cond (x.id == id) (by rfl) (fun he => CW_seq (CW_region ?_)) (fun he => CW_skip ?_)
      · have he : x.id = id := by simpa using he
        simp only [zZ, reduceIte, Nat.reduceLT, Int.reduceToNat, Int.reduceLE, Int.reduceEq, Int.reduceLT, Nat.reduceEqDiff, Nat.reduceAdd, zMn]
        refine CW_ret ?_
        simp only [zZ, reduceIte, Nat.reduceLT, Int.reduceToNat, Int.reduceLE, Int.reduceEq, Int.reduceLT, Nat.reduceEqDiff, Nat.reduceAdd, zMn, mEnd, sAnswer, sAnswer.sRes]
        exact ⟨M, Thin.refl _, by rw [findH_at hX he hno], rfl⟩
      · have he : x.id ≠ id := by simpa using he
        simp only [zZ, reduceIte, Nat.reduceLT, Int.reduceToNat, Int.reduceLE, Int.reduceEq, Int.reduceLT, Nat.reduceEqDiff, Nat.reduceAdd]
        refine CW_region ?_
        simp only [zZ, reduceIte, Nat.reduceLT, Int.reduceToNat, Int.reduceLE, Int.reduceEq, Int.reduceLT, Nat.reduceEqDiff, Nat.reduceAdd, zMn, w9]
        refine ⟨[0, 1, 5], ?_⟩
        simp only [zZ, reduceIte, Nat.reduceLT, Int.reduceToNat, Int.reduceLE, Int.reduceEq, Int.reduceLT, Nat.reduceEqDiff, Nat.reduceAdd, keepF]
        refine ⟨M, Thin.refl _, L.length - (i + 1), ⟨i + 1, rfl, rfl, by omega, fun k y hk hy => ?_, rfl⟩, by omega⟩
        by_cases e : k = i
        · subst e; rw [hX] at hy; cases hy; exact he
        · exact hno k y (by omega) hy
    · have hiL := of_decide_eq_false hq
      simp only [zZ, reduceIte, Nat.reduceLT, Int.reduceToNat, Int.reduceLE, Int.reduceEq, Int.reduceLT, Nat.reduceEqDiff, Nat.reduceAdd]
      refine CW_seq (CW_region ?_)
      simp only [zZ, reduceIte, Nat.reduceLT, Int.reduceToNat, Int.reduceLE, Int.reduceEq, Int.reduceLT, Nat.reduceEqDiff, Nat.reduceAdd, zMn]
      refine CW_ret ?_
      simp only [zZ, reduceIte, Nat.reduceLT, Int.reduceToNat, Int.reduceLE, Int.reduceEq, Int.reduceLT, Nat.reduceEqDiff, Nat.reduceAdd, zMn, mEnd, sAnswer, sAnswer.sRes]
      refine ⟨M, Thin.refl _, ?_, rfl⟩
      rw [findH_none fun k y hk hy => hno k y (by omega) hy]
end Go.Proofs.YtabffcplbjaklaaGreatDoor
namespace Go.Proofs.YtabffcplbjaklaaGreatDoor
open Go.RowKit Abs
def blkOf : Value → Option Nat
  | .slice (some a) _ _ => some a.block
  | _ => none
section
variable {α : Type} (enc : α → List Value) (N : Nat)
def OwnL (k : Nat) (M : Mem) (V : Value) (L : List α) : Prop := (L = [] ∧ V = .slice none 0 0) ∨ (L ≠ [] ∧ ∃ g, k ≤ g ∧ V = .slice (some ⟨g, 0, none⟩) L.length L.length ∧ M.get g = some (.cells false N (L.flatMap enc)))
variable {enc N}
theorem OwnL.nil (k : Nat) (M : Mem) : OwnL enc N k M (.slice none 0 0) [] := .inl ⟨rfl, rfl⟩
theorem OwnL.len {k : Nat} {M : Mem} {V : Value} {L : List α} (h : OwnL enc N k M V L) : ∃ a c, V = .slice a L.length c := by
  rcases h with ⟨rfl, rfl⟩ | ⟨_, g, _, rfl, _⟩
  · exact ⟨none, 0, rfl⟩
  · exact ⟨_, _, rfl⟩
theorem OwnL.same {k : Nat} {M M' : Mem} {V : Value} {L : List α} (h : OwnL enc N k M V L) (hs : ∀ b x, blkOf V = some b → M.get b = some x → M'.get b = some x) : OwnL enc N k M' V L := by
  rcases h with h | ⟨h0, g, hk, rfl, hg⟩
  · exact .inl h
  · exact .inr ⟨h0, g, hk, rfl, hs g _ rfl hg⟩
theorem OwnL.live {k : Nat} {M : Mem} {V : Value} {L : List α} (h : OwnL enc N k M V L) {b : Nat} (hb : blkOf V = some b) : k ≤ b ∧ b < M.size := by
  rcases h with ⟨_, rfl⟩ | ⟨h0, g, hk, rfl, hg⟩
  · cases hb
  · cases hb; exact ⟨hk, Mem.get_lt hg⟩
theorem OwnL.at {k : Nat} {M : Mem} {a : Option Addr} {n c : Nat} {L : List α} (h : OwnL enc N k M (.slice a n c) L) {i : Nat} {x : α} (hx : L[i]? = some x) : ∃ g, a = some ⟨g, 0, none⟩ ∧ k ≤ g ∧ M.get g = some (.cells false N (L.flatMap enc)) := by
  rcases h with ⟨h1, _⟩ | ⟨h1, g, h2, h3, h4⟩
  · rw [h1] at hx; cases hx
  · cases h3; exact ⟨g, rfl, h2, h4⟩
theorem OwnL.le {k k' : Nat} {M : Mem} {V : Value} {L : List α} (h : OwnL enc N k M V L) (hk : k' ≤ k) : OwnL enc N k' M V L := by
  rcases h with h | ⟨h0, g, h1, h2⟩
  · exact .inl h
  · exact .inr ⟨h0, g, by omega, h2⟩
theorem flat_length (henc : ∀ a, (enc a).length = N) (L : List α) : (L.flatMap enc).length = L.length * N := by
  induction L with
  | nil => simp
  | cons a L ih => rw [List.flatMap_cons, List.length_append, henc, ih, List.length_cons, Nat.succ_mul]; omega
variable {P : Program} {t tx e d : TypeId} {i : TypeInfo} {z : Value}
theorem oapp (hu : P.underlying t = some (.slice e)) (hi : P.info? e = some i) (hz : i.zero = some z) (hs : i.size = N) (hzc : z.cells.toList.length = N) (hx : P.underlying tx = some (.slice d)) (henc : ∀ a, (enc a).length = N) (hby : i.bytes ≤ 1000)
    {k : Nat} {M : Mem} {V : Value} {L : List α} (h : OwnL enc N k M V L) (hk : k ≤ M.size) (hl : L.length ≤ 1000000) (x : α) (sn : Nat) :
    ∃ M' V', aAppend P (M.push (.cells false sn (enc x))) t tx V (.slice (some ⟨M.size, 0, none⟩) 1 1) = some (V', M') ∧ blkOf V' = some (M.size + 1) ∧ OwnL enc N k M' V' (L ++ [x]) ∧
      M'.size = M.size + 2 ∧ (∀ b y, blkOf V ≠ some b → M.get b = some y → M'.get b = some y) := by
  have hsrc := src_block (P := P) (m := M.push (.cells false sn (enc x))) (c := 1) (k := 1) (N := N) (news := enc x) (ro := false) (s := sn) hx (Mem.get_push_new M _) (by rw [henc]; omega)
  rcases h with ⟨rfl, rfl⟩ | ⟨h0, g, hgk, rfl, hg⟩
  · have ha := gapp_nil (P := P) (N := N) (k := 1) (news := enc x) hu hi hz hs hzc (M.push (.cells false sn (enc x))) hsrc (by decide) (by omega) (by decide)
    rw [Mem.size_push] at ha
    refine ⟨_, _, ha, rfl, .inr ⟨by simp, M.size + 1, by omega, rfl, ?_⟩, by simp only [Mem.size_push], fun b y _ hy => ?_⟩
    · have := Mem.get_push_new (M.push (.cells false sn (enc x))) (.cells false N (enc x))
      rw [Mem.size_push] at this
      rw [this]
      simp
    · have := Mem.get_lt hy
      rw [Mem.get_push_old (by rw [Mem.size_push]; omega), Mem.get_push_old this]; exact hy
  · have hgl := Mem.get_lt hg
    have ha := gapp (P := P) (N := N) (k := 1) (n := L.length) (cs := L.flatMap enc) (news := enc x) hu hi hz hs hzc (M.push (.cells false sn (enc x))) hsrc (by decide)
      (by rw [Mem.get_push_old hgl]; exact hg) (flat_length henc L) (by have := Nat.mul_le_mul (show L.length + 1 ≤ 1000001 by omega) hby; omega) (by omega)
    rw [Mem.size_push] at ha
    refine ⟨_, _, ha, rfl, .inr ⟨by simp, M.size + 1, by omega, by simp, ?_⟩, by simp only [Mem.size_push, Mem.size_set], fun b y hb hy => ?_⟩
    · have := Mem.get_push_new ((M.push (.cells false sn (enc x))).set g none) (.cells false N (L.flatMap enc ++ enc x))
      rw [Mem.size_set, Mem.size_push] at this
      rw [this, List.flatMap_append]; simp
    · have := Mem.get_lt hy
      rw [Mem.get_push_old (by rw [Mem.size_set, Mem.size_push]; omega), Mem.get_set_ne (by intro e; apply hb; rw [e]; rfl), Mem.get_push_old this]; exact hy
end
theorem flat_one {α : Type} (f : α → Value) (L : List α) : (L.flatMap fun a => [f a]) = L.map f := by
  induction L with
  | nil => rfl
  | cons a L ih => rw [List.flatMap_cons, ih]; rfl
theorem cell_one {α : Type} {f : α → Value} {L : List α} {i : Nat} {x : α} (hx : L[i]? = some x) (ro : Bool) (s : Nat) : cellIn i (some (.cells ro s (L.flatMap fun a => [f a]))) = some (f x) := by
  rw [flat_one]
  simp only [cellIn, List.getElem?_map, hx, Option.map_some]
end Go.Proofs.YtabffcplbjaklaaGreatDoor
namespace Go.Proofs.YtabffcplbjaklaaGreatDoor
open Go.RowKit Abs
def encZ (x : Int) : List Value := [.int .i64 x]
abbrev IntsOwn (k : Nat) (M : Mem) (V : Value) (L : List Int) : Prop := OwnL encZ 1 k M V L
theorem Int_zero : Tryz.t3.zero = some (.int .i64 0) := rfl
theorem Int_bytes : Tryz.t3.bytes ≤ 1000 := by decide
theorem new_int1 (x : Int) : nBuildSlice Tryz.prog 35 1 [(0, .int .i64 x)] = some (.cells false 1 (encZ x)) := by kernel_rfl
theorem iapp {k : Nat} {M : Mem} {V : Value} {L : List Int} (h : IntsOwn k M V L) (hk : k ≤ M.size) (hl : L.length ≤ 1000000) (x : Int) :
    ∃ M' V', aAppend Tryz.prog (M.push (.cells false 1 (encZ x))) 35 35 V (.slice (some ⟨M.size, 0, none⟩) 1 1) = some (V', M') ∧ blkOf V' = some (M.size + 1) ∧ IntsOwn k M' V' (L ++ [x]) ∧
      M'.size = M.size + 2 ∧ (∀ b y, blkOf V ≠ some b → M.get b = some y → M'.get b = some y) :=
  oapp Tryz.underlying35 inf_Int Int_zero sz_Int rfl Tryz.underlying35 (fun _ => rfl) Int_bytes h hk hl x 1
theorem encZ_map (L : List Int) : L.flatMap encZ = L.map (Value.int .i64) := flat_one _ L
theorem rel_ints {ι : Nat → Abs.Loc} {m : Mem} {w : World} (hr : Rel ι m w) {g s : Nat} {L : List Int} (hg : m.get g = some (.cells false s (L.map (Value.int .i64)))) :
    (ι g).blk < w.heap.size ∧ Sort.Holds (Value.int .i64) w (ι g).blk (ι g).base L.toArray := by
  obtain ⟨C, e, fz, hC, hsz, hst, hlen, hv, hfz⟩ := hr.at' g false s _ hg
  refine ⟨(Array.getElem?_eq_some_iff.1 hC).1, fun j hj => ?_⟩
  have hj' : j < L.length := by simpa using hj
  obtain ⟨_, v', h1, h2⟩ := hv j (.int .i64 L[j]) (by simp [hj'])
  cases h2
  refine ⟨?_, ?_⟩
  · rw [cell_of_block hC, h1]
    simp [hj']
  · exact frozen_of_block hC (hfz rfl _ (by rw [List.length_map] at hlen; omega))
theorem setL_all : ∀ (vs cs : List Value), vs.length = cs.length → setL cs 0 vs = vs := fun vs cs h => by
  apply List.ext_getElem?
  intro i
  rw [setL_get _ _ _ _ (by omega)]
  by_cases hi : i < vs.length
  · rw [if_pos (by omega), Nat.sub_zero]
  · rw [if_neg (by omega), List.getElem?_eq_none (by omega), List.getElem?_eq_none (by omega)]
theorem heap_setCells_same : ∀ (vs : List Value) (w w2 : World) (b o : Nat), w2.heap = w.heap → (w2.setCells b o vs).heap = (w.setCells b o vs).heap
  | [], _, _, _, _, h => h
  | v :: r, w, w2, b, o, h => by
    rw [World.setCells, World.setCells]
    refine heap_setCells_same r _ _ b (o + 1) ?_
    simp only [World.setCell, h]
theorem rel_turn {ι : Nat → Abs.Loc} {m : Mem} {w : World} (hr : Rel ι m w) {g s : Nat} {L R : List Int} (hg : m.get g = some (.cells false s (L.map (Value.int .i64)))) (hl : R.length = L.length) (n : Nat) (os : Array Obj) :
    Rel ι (m.set g (some (.cells false s (R.map (Value.int .i64))))) (Sort.grow (Sort.putRow (Value.int .i64) (Sort.ahead w n) (ι g).blk (ι g).base R.toArray) os) ∧
      Step ι m w ι (m.set g (some (.cells false s (R.map (Value.int .i64))))) (Sort.grow (Sort.putRow (Value.int .i64) (Sort.ahead w n) (ι g).blk (ι g).base R.toArray) os) := by
  obtain ⟨hb, hH⟩ := rel_ints hr hg
  rw [Lib.putRow_eq_setCells (Value.int .i64) w (ι g).blk (ι g).base L.toArray R n hH (by simp [hl])]
  have hw := hr.write hg 0 (R.map (Value.int .i64)) (R.map (Value.int .i64)) (by simp [hl]) (fun v hv => by
    obtain ⟨x, _, rfl⟩ := List.mem_map.1 hv; rfl) ⟨rfl, fun i x y hx hy => by
      rw [hx] at hy; cases hy
      obtain ⟨z, _, rfl⟩ := List.mem_map.1 (List.mem_of_getElem? hx)
      exact .int _ _⟩
  rw [setL_all _ _ (by simp [hl]), Nat.add_zero] at hw
  obtain ⟨h1, h2⟩ := hw
  obtain ⟨q1, q2, q3, q4⟩ := setCells_rest (R.map (Value.int .i64)) w (ι g).blk (ι g).base
  obtain ⟨k1, k2, k3, k4⟩ := setCells_rest (R.map (Value.int .i64)) (w.drewN n) (ι g).blk (ι g).base
  have hh := heap_setCells_same (R.map (Value.int .i64)) w (w.drewN n) (ι g).blk (ι g).base rfl
  have key : ∀ b, b < (w.setCells (ι g).blk (ι g).base (R.map (Value.int .i64))).heap.size → (Sort.grow ((w.drewN n).setCells (ι g).blk (ι g).base (R.map (Value.int .i64))) os).heap[b]? = (w.setCells (ι g).blk (ι g).base (R.map (Value.int .i64))).heap[b]? := fun b hb => by
    rw [Sort.heap_grow_old _ _ (by rw [hh]; exact hb), hh]
  refine ⟨h1.same key, h2.trans ⟨?_, ?_, ?_, ?_, fun _ h => h, fun _ _ => rfl, fun b hb _ => key b hb, fun b hb => .inr ⟨b, hb, rfl⟩⟩⟩
  · rw [q2]; exact k2
  · rw [q3]; exact k3
  · rw [q4]; exact k4
  · rw [Sort.size_grow, hh]; omega
theorem arg_slice {ι : Nat → Abs.Loc} {m : Mem} {ys : List Value} {g len cap : Nat} (hy : VRels m.Has ι [.slice (some ⟨g, 0, none⟩) len cap] ys) (h0 : 0 < cap) :
    ∃ cap', ys = [.slice (some ⟨(ι g).blk, (ι g).base, none⟩) len cap'] ∧ len ≤ cap' ∧ m.Has g ∧ (cap' = cap ∨ (cap ≤ cap' ∧ (ι g).base + 0 + cap' * (ι g).stride ≤ (ι g).size ∧ cap' ≤ maxLen)) := by
  obtain ⟨hy0, hy1⟩ := hy
  obtain ⟨y, rfl⟩ : ∃ y, ys = [y] := by
    match ys, hy0 with
    | [y], _ => exact ⟨y, rfl⟩
  have hv := hy1 0 _ y rfl rfl
  cases hv with
  | slice b o len cap cap' h hl hc => exact ⟨cap', by simp, by omega, h, hc⟩
  | empty b o p h => omega
def sortedZ (L : List Int) : List Int := L.mergeSort fun x y => decide (x ≤ y)
theorem isort_spec (m : Mem) (g s cap : Nat) (L : List Int) (hL : L ≠ []) (hs : L.length ≤ 1000000) (hcap : L.length ≤ cap) (hg : m.get g = some (.cells false s (L.map (Value.int .i64)))) :
    Abs.Spec Tryz.prog 36 [.slice (some ⟨g, 0, none⟩) L.length cap] m fun v M => v = .tuple #[] ∧ M = m.set g (some (.cells false s ((sortedZ L).map (Value.int .i64)))) := by
  intro ι w ys hy hr
  have hpos := List.length_pos_iff.2 hL
  obtain ⟨cap', rfl, hc', _, _⟩ := arg_slice hy (by omega)
  obtain ⟨hb, hH⟩ := rel_ints hr hg
  refine (Tryz.slices_Sort_int (ι g).blk (ι g).base cap' L w hH hb (by omega)).mono ?_
  rintro e w' ⟨rfl, n, os, rfl⟩
  obtain ⟨h1, h2⟩ := rel_turn (R := sortedZ L) hr hg (by simp [sortedZ]) n os
  exact ⟨_, _, ι, _, ⟨rfl, rfl⟩, rfl, .tuple #[] #[] rfl (fun i x y hx => by simp at hx), h1, h2⟩
theorem isort_none (m : Mem) : Abs.Spec Tryz.prog 36 [.slice none 0 0] m fun v M => v = .tuple #[] ∧ M = m :=
  Abs.Spec.of_flat (by intro x hx; simp at hx; subst hx; rfl) rfl fun w => (Tryz.slices_Sort_int_none none 0 w).mono fun _ _ ⟨h, e⟩ => ⟨h, e ▸ Below.refl _ _⟩
theorem icompact_spec (m : Mem) (g s cap : Nat) (L : List Int) (hL : L ≠ []) (hs : L.length ≤ 1000000) (hcap : L.length ≤ cap) (hg : m.get g = some (.cells false s (L.map (Value.int .i64)))) :
    Abs.Spec Tryz.prog 37 [.slice (some ⟨g, 0, none⟩) L.length cap] m fun v M => v = .slice (some ⟨g, 0, none⟩) (Lib.compact L).length cap ∧
      M = m.set g (some (.cells false s ((Lib.compact L ++ List.replicate (L.length - (Lib.compact L).length) 0).map (Value.int .i64)))) := by
  intro ι w ys hy hr
  have hpos := List.length_pos_iff.2 hL
  obtain ⟨cap', rfl, hc', hh, hor⟩ := arg_slice hy (by omega)
  obtain ⟨hb, hH⟩ := rel_ints hr hg
  have hle := Lib.compact_length_le L
  refine (Tryz.slices_Compact_int (ι g).blk (ι g).base cap' L w hH (by omega) (by omega)).mono ?_
  rintro e w' ⟨rfl, n, rfl⟩
  obtain ⟨h1, h2⟩ := rel_turn (R := Lib.compact L ++ List.replicate (L.length - (Lib.compact L).length) 0) hr hg (by simp; omega) n #[]
  rw [Sort.grow_empty] at h1 h2
  exact ⟨_, _, ι, _, ⟨rfl, rfl⟩, rfl, .slice g 0 _ cap cap' (Mem.has_set _ hh) (by omega) hor, h1, h2⟩
theorem icompact_none (m : Mem) : Abs.Spec Tryz.prog 37 [.slice none 0 0] m fun v M => v = .slice none 0 0 ∧ M = m :=
  Abs.Spec.of_flat (by intro x hx; simp at hx; subst hx; rfl) rfl fun w => (Tryz.slices_Compact_int_empty none 0 w).mono fun _ _ ⟨h, e⟩ => ⟨h, e ▸ Below.refl _ _⟩
def Inc (R : List Int) : Prop := R.Pairwise (· < ·)
structure SetOf (X R : List Int) : Prop where
  inc : Inc R
  mem : ∀ n, n ∈ R ↔ n ∈ X
theorem inc_unique : ∀ {R R' : List Int}, Inc R → Inc R' → (∀ n, n ∈ R ↔ n ∈ R') → R = R'
  | [], [], _, _, _ => rfl
  | [], y :: r', _, _, h => absurd ((h y).2 (by simp)) (by simp)
  | x :: r, [], _, _, h => absurd ((h x).1 (by simp)) (by simp)
  | x :: r, y :: r', h1, h2, h => by
    unfold Inc at h1 h2
    rw [List.pairwise_cons] at h1 h2
    have e : x = y := by
      rcases List.mem_cons.1 ((h x).1 (by simp)) with e | e
      · exact e
      · rcases List.mem_cons.1 ((h y).2 (by simp)) with e2 | e2
        · exact e2.symm
        · have := h1.1 y e2; have := h2.1 x e; omega
    subst e
    rw [inc_unique h1.2 h2.2 fun n => ?_]
    constructor
    · intro hn
      rcases List.mem_cons.1 ((h n).1 (by simp [hn])) with e | e
      · have := h1.1 n hn; omega
      · exact e
    · intro hn
      rcases List.mem_cons.1 ((h n).2 (by simp [hn])) with e | e
      · have := h2.1 n hn; omega
      · exact e
theorem SetOf.unique {X R R' : List Int} (h : SetOf X R) (g : SetOf X R') : R = R' := inc_unique h.inc g.inc fun n => (h.mem n).trans (g.mem n).symm
theorem compact_upto (d : Array Int) (hd : ∀ j, j + 1 < d.size → d[j]! ≤ d[j + 1]!) : ∀ m, m ≤ d.size → Inc (Lib.compactUpTo d m) ∧ (∀ n, n ∈ Lib.compactUpTo d m ↔ ∃ j, j < m ∧ d[j]! = n) ∧ ∀ n ∈ Lib.compactUpTo d m, n ≤ d[m - 1]!
  | 0, _ => ⟨by simp [Inc, Lib.compactUpTo], fun n => by simp [Lib.compactUpTo], fun n hn => by simp [Lib.compactUpTo] at hn⟩
  | m + 1, hm => by
    obtain ⟨h1, h2, h3⟩ := compact_upto d hd m (by omega)
    rw [Lib.compactUpTo_succ]
    by_cases hk : Lib.keeps d m = true
    · rw [if_pos hk]
      have hk' : m = 0 ∨ d[m]! ≠ d[m - 1]! := by simpa [Lib.keeps] using hk
      have hlt : ∀ n ∈ Lib.compactUpTo d m, n < d[m]! := fun n hn => by
        rcases Nat.eq_zero_or_pos m with rfl | hp
        · simp [Lib.compactUpTo] at hn
        · have a := h3 n hn
          have b := hd (m - 1) (by omega)
          rw [show m - 1 + 1 = m by omega] at b
          rcases hk' with e | e
          · omega
          · omega
      refine ⟨?_, fun n => ?_, fun n hn => ?_⟩
      · refine List.pairwise_append.2 ⟨h1, by simp, fun a ha b hb => ?_⟩
        rw [List.mem_singleton] at hb; subst hb
        exact hlt a ha
      · rw [List.mem_append, List.mem_singleton, h2]
        constructor
        · rintro (⟨j, hj, e⟩ | rfl)
          · exact ⟨j, by omega, e⟩
          · exact ⟨m, by omega, rfl⟩
        · rintro ⟨j, hj, e⟩
          by_cases hjm : j = m
          · subst hjm; exact .inr e.symm
          · exact .inl ⟨j, by omega, e⟩
      · rw [List.mem_append, List.mem_singleton] at hn
        rw [Nat.add_sub_cancel]
        rcases hn with hn | rfl
        · have := hlt n hn; omega
        · exact Int.le_refl _
    · rw [if_neg hk, List.append_nil]
      have hk' : ¬ (m = 0 ∨ d[m]! ≠ d[m - 1]!) := by simpa [Lib.keeps] using hk
      have hm0 : m ≠ 0 := fun e => hk' (.inl e)
      have he : d[m]! = d[m - 1]! := Classical.byContradiction fun e => hk' (.inr e)
      refine ⟨h1, fun n => ?_, fun n hn => ?_⟩
      · rw [h2]
        constructor
        · rintro ⟨j, hj, e⟩; exact ⟨j, by omega, e⟩
        · rintro ⟨j, hj, e⟩
          by_cases hjm : j = m
          · subst hjm; exact ⟨j - 1, by omega, by rw [← he]; exact e⟩
          · exact ⟨j, by omega, e⟩
      · rw [Nat.add_sub_cancel, he]; exact h3 n hn
theorem compact_inc {L : List Int} (h : L.Pairwise (· ≤ ·)) : SetOf L (Lib.compact L) := by
  have hd : ∀ j, j + 1 < L.toArray.size → L.toArray[j]! ≤ L.toArray[j + 1]! := fun j hj => by
    have hj' : j + 1 < L.length := by simpa using hj
    have := (List.pairwise_iff_getElem.1 h) j (j + 1) (by omega) hj' (by omega)
    rw [getElem!_pos _ j (by simp; omega), getElem!_pos _ (j + 1) hj]
    simpa using this
  obtain ⟨h1, h2, _⟩ := compact_upto L.toArray hd L.length (by simp)
  refine ⟨h1, fun n => (h2 n).trans ?_⟩
  constructor
  · rintro ⟨j, hj, e⟩
    rw [getElem!_pos _ j (by simpa using hj)] at e
    rw [← e]
    simp
  · intro hn
    obtain ⟨j, hj, e⟩ := List.getElem_of_mem hn
    exact ⟨j, hj, by rw [getElem!_pos _ j (by simpa using hj)]; simpa using e⟩
theorem sortedZ_le (L : List Int) : (sortedZ L).Pairwise (· ≤ ·) := by
  have := List.pairwise_mergeSort (le := fun x y : Int => decide (x ≤ y)) (fun a b c h1 h2 => by simp at h1 h2 ⊢; omega) (fun a b => by simp; omega) L
  exact this.imp fun h => by simpa using h
theorem sortedZ_mem (L : List Int) (n : Int) : n ∈ sortedZ L ↔ n ∈ L := by unfold sortedZ; exact List.mem_mergeSort
theorem sortedZ_len (L : List Int) : (sortedZ L).length = L.length := by simp [sortedZ]
end Go.Proofs.YtabffcplbjaklaaGreatDoor
namespace Go.Proofs.YtabffcplbjaklaaGreatDoor
open Go.RowKit Abs
def IntsRd (M : Mem) (V : Value) (R : List Int) : Prop := ∃ a c, V = .slice a R.length c ∧ ∀ (i : Nat) (x : Int), R[i]? = some x → ∃ g ro s cs, a = some ⟨g, 0, none⟩ ∧ M.get g = some (.cells ro s cs) ∧ cs[i]? = some (.int .i64 x)
theorem IntsRd.same {M M' : Mem} {V : Value} {R : List Int} (h : IntsRd M V R) (hs : ∀ b x, blkOf V = some b → M.get b = some x → M'.get b = some x) : IntsRd M' V R := by
  obtain ⟨a, c, rfl, h⟩ := h
  refine ⟨a, c, rfl, fun i x hx => ?_⟩
  obtain ⟨g, ro, s, cs, rfl, h1, h2⟩ := h i x hx
  exact ⟨g, ro, s, cs, rfl, hs g _ rfl h1, h2⟩
theorem IntsOwn.rd {k : Nat} {M : Mem} {V : Value} {L : List Int} (h : IntsOwn k M V L) : IntsRd M V L := by
  rcases h with ⟨rfl, rfl⟩ | ⟨_, g, _, rfl, hg⟩
  · exact ⟨none, 0, rfl, fun i x hx => by simp at hx⟩
  · refine ⟨_, _, rfl, fun i x hx => ⟨g, _, _, _, rfl, hg, ?_⟩⟩
    rw [encZ_map, List.getElem?_map, hx]; rfl
set_option maxRecDepth 100000 in
set_option maxHeartbeats 2000000 in
theorem tidy_spec (K : Nat) (M : Mem) (V : Value) (L : List Int) (h : IntsOwn K M V L) (hl : L.length ≤ 1000) :
    Abs.Spec Tryz.prog 35 [V] M fun u M' => (∃ R, SetOf L R ∧ IntsRd M' u R) ∧ (∀ b x, blkOf V ≠ some b → M.get b = some x → M'.get b = some x) ∧ M'.size = M.size ∧ (∀ b, blkOf u = some b → blkOf V = some b) := by
  refine Abs.Spec.walkM Tryz.func35 (by rfl) _ Tryz.results35 _ Tryz.ntmps35 (by simp) ?_
  intro hc hx k
  rcases h with ⟨rfl, rfl⟩ | ⟨h0, g, hk, rfl, hg⟩
  · refine CW_seq (CW_region ?_)
    simp only [zZ, reduceIte, Nat.reduceLT, Int.reduceToNat, Int.reduceLE, Int.reduceEq, Int.reduceLT, Nat.reduceEqDiff, Nat.reduceAdd, zMn]
    refine CW_seq (CW_region ?_)
    simp only [zZ, reduceIte, Nat.reduceLT, Int.reduceToNat, Int.reduceLE, Int.reduceEq, Int.reduceLT, Nat.reduceEqDiff, Nat.reduceAdd, zMn]
    refine ⟨by kernel_rfl, _, isort_none M, ?_⟩
    rintro _ M9 ⟨rfl, e9⟩; replace e9 := e9.symm; subst e9
    simp only [zZ, reduceIte, Nat.reduceLT, Int.reduceToNat, Int.reduceLE, Int.reduceEq, Int.reduceLT, Nat.reduceEqDiff, Nat.reduceAdd, zMn]
    refine CW_seq (CW_region ?_)
    simp only [zZ, reduceIte, Nat.reduceLT, Int.reduceToNat, Int.reduceLE, Int.reduceEq, Int.reduceLT, Nat.reduceEqDiff, Nat.reduceAdd, zMn]
    refine ⟨by kernel_rfl, _, icompact_none M, ?_⟩
    rintro _ M9 ⟨rfl, e9⟩; replace e9 := e9.symm; subst e9
    simp only [zZ, reduceIte, Nat.reduceLT, Int.reduceToNat, Int.reduceLE, Int.reduceEq, Int.reduceLT, Nat.reduceEqDiff, Nat.reduceAdd, zMn]
    refine CW_ret ?_
    simp only [zZ, reduceIte, Nat.reduceLT, Int.reduceToNat, Int.reduceLE, Int.reduceEq, Int.reduceLT, Nat.reduceEqDiff, Nat.reduceAdd, zMn, mEnd, sAnswer, sAnswer.sRes]
    exact ⟨M, Thin.refl _, ⟨[], ⟨List.Pairwise.nil, fun n => Iff.rfl⟩, ⟨none, 0, rfl, fun i x hx => by simp at hx⟩⟩, fun _ _ _ h => h, rfl, fun _ h => h⟩
  · rw [encZ_map] at hg
    have hS := sortedZ_len L
    have hSn : sortedZ L ≠ [] := fun e => by rw [e] at hS; exact h0 (List.eq_nil_of_length_eq_zero hS.symm)
    have hle := Lib.compact_length_le (sortedZ L)
    have h2 := icompact_spec (M.set g (some (.cells false 1 ((sortedZ L).map (Value.int .i64))))) g 1 L.length (sortedZ L) hSn (by omega) (by omega) (Mem.get_set_same hg _)
    rw [hS] at h2
    refine CW_seq (CW_region ?_)
    simp only [zZ, reduceIte, Nat.reduceLT, Int.reduceToNat, Int.reduceLE, Int.reduceEq, Int.reduceLT, Nat.reduceEqDiff, Nat.reduceAdd, zMn]
    refine CW_seq (CW_region ?_)
    simp only [zZ, reduceIte, Nat.reduceLT, Int.reduceToNat, Int.reduceLE, Int.reduceEq, Int.reduceLT, Nat.reduceEqDiff, Nat.reduceAdd, zMn]
    refine ⟨by kernel_rfl, _, isort_spec M g 1 L.length L h0 (by omega) (Nat.le_refl _) hg, ?_⟩
    rintro _ M9 ⟨rfl, rfl⟩
    simp only [zZ, reduceIte, Nat.reduceLT, Int.reduceToNat, Int.reduceLE, Int.reduceEq, Int.reduceLT, Nat.reduceEqDiff, Nat.reduceAdd, zMn]
    refine CW_seq (CW_region ?_)
    simp only [zZ, reduceIte, Nat.reduceLT, Int.reduceToNat, Int.reduceLE, Int.reduceEq, Int.reduceLT, Nat.reduceEqDiff, Nat.reduceAdd, zMn]
    refine ⟨by kernel_rfl, _, h2, ?_⟩
    rintro _ M9 ⟨rfl, rfl⟩
    simp only [zZ, reduceIte, Nat.reduceLT, Int.reduceToNat, Int.reduceLE, Int.reduceEq, Int.reduceLT, Nat.reduceEqDiff, Nat.reduceAdd, zMn]
    refine CW_ret ?_
    simp only [zZ, reduceIte, Nat.reduceLT, Int.reduceToNat, Int.reduceLE, Int.reduceEq, Int.reduceLT, Nat.reduceEqDiff, Nat.reduceAdd, zMn, mEnd, sAnswer, sAnswer.sRes]
    have hso := compact_inc (sortedZ_le L)
    refine ⟨_, Thin.refl _, ⟨Lib.compact (sortedZ L), ⟨hso.inc, fun n => (hso.mem n).trans (sortedZ_mem L n)⟩, ⟨_, _, rfl, fun i x hx => ⟨g, _, _, _, rfl, Mem.get_set_same (Mem.get_set_same hg _) _, ?_⟩⟩⟩, fun b x hb hx => ?_, by simp only [Mem.size_set], fun _ h => h⟩
    · rw [List.map_append, List.getElem?_append_left (by rw [List.length_map]; exact (List.getElem?_eq_some_iff.1 hx).1), List.getElem?_map, hx]; rfl
    · have hne : g ≠ b := fun e => hb (by rw [e]; rfl)
      rw [Mem.get_set_ne hne, Mem.get_set_ne hne]; exact hx
def isMiss (A : List Header) (h : Header) : Bool := decide (findH A h.id < 0)
def isOther (A : List Header) (h : Header) : Bool := !isMiss A h && (match A[(findH A h.id).toNat]? with | some y => !sameH y h | none => false)
def missL (A B : List Header) : List Int := (B.filter (isMiss A)).map Header.id
def otherL (A B : List Header) : List Int := (B.filter (isOther A)).map Header.id
theorem filt_step {B : List Header} {p : Header → Bool} {i : Nat} {x : Header} (hx : B[i]? = some x) : ((B.take (i + 1)).filter p).map Header.id = ((B.take i).filter p).map Header.id ++ (if p x = true then [x.id] else []) := by
  rw [List.take_add_one, hx, Option.toList_some, List.filter_append, List.map_append]
  congr 1
  cases h : p x <;> simp [h]
theorem filt_len (B : List Header) (p : Header → Bool) (i : Nat) : (((B.take i).filter p).map Header.id).length ≤ B.length := by
  rw [List.length_map]
  have := List.length_filter_le p (B.take i)
  rw [List.length_take] at this
  omega
def HoldIs (A B : List Header) (M' : Mem) (u : Value) : Prop := ∃ V1 V2 V3 R1 R2 R3, u = .tuple #[V1, V2, V3] ∧ SetOf (missL A B) R1 ∧ SetOf (missL B A) R2 ∧ SetOf (otherL A B) R3 ∧ IntsRd M' V1 R1 ∧ IntsRd M' V2 R2 ∧ IntsRd M' V3 R3
set_option maxRecDepth 100000 in
set_option maxHeartbeats 8000000 in
theorem hold_spec (K K' : Nat) (M : Mem) (Va Vb : Value) (A B : List Header) (ha : HdrsOwn K M Va A) (hb : HdrsOwn K' M Vb B) (hla : A.length ≤ 1000) (hlb : B.length ≤ 1000) :
    Abs.Spec Tryz.prog 13 [Va, Vb] M fun u M' => HoldIs A B M' u ∧ (∀ b x, b < M.size → M.get b = some x → M'.get b = some x) ∧ M.size ≤ M'.size := by
  obtain ⟨a0, c0, hV⟩ := ha.len
  subst hV
  obtain ⟨b0, d0, hV⟩ := hb.len
  subst hV
  refine Abs.Spec.walkM Tryz.func13 (by rfl) _ Tryz.results13 _ Tryz.ntmps13 (by simp) ?_
  intro hc hx k
  have hal : nAlloc Tryz.prog 40 = some (.cells false (aStride Tryz.prog 40) [.int .i64 0, .string ⟨#[]⟩, .int .i64 0, .int .i64 0, .int .i64 0, .string ⟨#[]⟩, .string ⟨#[]⟩]) := al_Hdr
  generalize aStride Tryz.prog 40 = s2 at hal
  have keepA : ∀ M', (∀ b x, b < M.size → M.get b = some x → M'.get b = some x) → HdrsOwn K M' (.slice a0 A.length c0) A := fun M' hM => ha.same fun b x hb' hx => hM b x (ha.live hb').2 hx
  have keepB : ∀ M', (∀ b x, b < M.size → M.get b = some x → M'.get b = some x) → HdrsOwn K' M' (.slice b0 B.length d0) B := fun M' hM => hb.same fun b x hb' hx => hM b x (hb.live hb').2 hx
  have put : ∀ (M' : Mem) (x : Header), putIn 7 (M'.push (.cells false s2 [.int .i64 0, .string ⟨#[]⟩, .int .i64 0, .int .i64 0, .int .i64 0, .string ⟨#[]⟩, .string ⟨#[]⟩])) M'.size 0 x.cells (some (.cells false s2 [.int .i64 0, .string ⟨#[]⟩, .int .i64 0, .int .i64 0, .int .i64 0, .string ⟨#[]⟩, .string ⟨#[]⟩])) = some (M'.push (.cells false s2 x.cells)) := fun M' x => by
    simp only [putIn]
    rw [if_pos ⟨rfl, Nat.le_refl 7, rfl⟩]
    congr 1
    exact push_set _ _ _
  refine CW_seq (CW_region ?_)
  simp only [zZ, reduceIte, Nat.reduceLT, Int.reduceToNat, Int.reduceLE, Int.reduceEq, Int.reduceLT, Nat.reduceEqDiff, Nat.reduceAdd, zMn]
  refine CW_seq (CW_region ?_)
  simp only [zZ, reduceIte, Nat.reduceLT, Int.reduceToNat, Int.reduceLE, Int.reduceEq, Int.reduceLT, Nat.reduceEqDiff, Nat.reduceAdd, zMn]
  refine CW_seq (CW_region ?_)
  simp only [zZ, reduceIte, Nat.reduceLT, Int.reduceToNat, Int.reduceLE, Int.reduceEq, Int.reduceLT, Nat.reduceEqDiff, Nat.reduceAdd, zMn]
  refine MW_mid (fun f M' => ∃ V7 V9, f = [(0, .slice a0 A.length c0), (1, .slice b0 B.length d0), (7, V7), (8, .slice none 0 0), (9, V9), (10, .func (.func 32) #[] #[])] ∧
    IntsOwn M.size M' V7 (missL A B) ∧ IntsOwn M.size M' V9 (otherL A B) ∧ (∀ b, blkOf V7 = some b → blkOf V9 ≠ some b) ∧ (∀ b x, b < M.size → M.get b = some x → M'.get b = some x) ∧ M.size ≤ M'.size) ?_ ?_
  · refine CW_seq (CW_region ?_)
    simp only [zZ, reduceIte, Nat.reduceLT, Int.reduceToNat, Int.reduceLE, Int.reduceEq, Int.reduceLT, Nat.reduceEqDiff, Nat.reduceAdd, zMn]
    refine CW_block (MW_loop (fun j f M' => ∃ (i : Nat) (V7 V9 : Value), j = B.length - i ∧ f = [(0, .slice a0 A.length c0), (1, .slice b0 B.length d0), (7, V7), (8, .slice none 0 0), (9, V9), (10, .func (.func 32) #[] #[]), (17, .slice b0 B.length d0), (18, .int .i64 (B.length : Nat)), (19, .int .i64 (i : Nat))] ∧ i ≤ B.length ∧
      IntsOwn M.size M' V7 (((B.take i).filter (isMiss A)).map Header.id) ∧ IntsOwn M.size M' V9 (((B.take i).filter (isOther A)).map Header.id) ∧ (∀ b, blkOf V7 = some b → blkOf V9 ≠ some b) ∧ (∀ b x, b < M.size → M.get b = some x → M'.get b = some x) ∧ M.size ≤ M'.size) B.length ?_ ?_)
    · have nodj : ∀ b, blkOf (.slice none 0 0) = some b → blkOf (.slice none 0 0) ≠ some b := fun b h => by simp [blkOf] at h
      refine ⟨[0, 1, 7, 8, 9, 10, 17, 18, 19], ?_⟩
      simp only [zZ, reduceIte, Nat.reduceLT, Int.reduceToNat, Int.reduceLE, Int.reduceEq, Int.reduceLT, Nat.reduceEqDiff, Nat.reduceAdd, keepF]
      exact ⟨M, Thin.refl _, 0, _, _, rfl, rfl, by omega, .inl ⟨by simp, rfl⟩, .inl ⟨by simp, rfl⟩, nodj, fun _ _ _ h => h, Nat.le_refl _⟩
    · rintro j f M' ⟨i, V7, V9, rfl, rfl, hi, h7, h9, hdj, hold, hsz⟩
      refine CW_seq (CW_region ?_)
      simp only [zZ, reduceIte, Nat.reduceLT, Int.reduceToNat, Int.reduceLE, Int.reduceEq, Int.reduceLT, Nat.reduceEqDiff, Nat.reduceAdd, zMn]
      refine CW_seq (CW_cond (decide ((i : Int) < (B.length : Int))) (by rfl) (fun hq => CW_skip ?_) (fun hq => CW_exit ?_))
      · have hiL := of_decide_eq_true hq
        obtain ⟨x, hX⟩ : ∃ x, B[i]? = some x := ⟨_, List.getElem?_eq_getElem (by omega)⟩
        obtain ⟨gb, rfl, hgb⟩ := (keepB M' hold).at hX
        have z0 : (0 : Int) ≤ (i : Int) := by omega
        have r1 := hdr_row hgb hX
        have hput := put M' x
        have w9 : IntKind.i64.wrap ((i : Int) + 1) = ((i + 1 : Nat) : Int) := by rw [wri (by omega) (by omega)]; omega
        simp only [zZ, reduceIte, Nat.reduceLT, Int.reduceToNat, Int.reduceLE, Int.reduceEq, Int.reduceLT, Nat.reduceEqDiff, Nat.reduceAdd]
        refine CW_seq (CW_block (CW_seq (CW_region ?_)))
        simp only [zZ, reduceIte, Nat.reduceLT, Int.reduceToNat, Int.reduceLE, Int.reduceEq, Int.reduceLT, Nat.reduceEqDiff, Nat.reduceAdd, zMn, z0, hiL, and_self, r1, hal, Mem.get_push_new, agg_cells, hput]
        obtain ⟨M4, hM4⟩ : ∃ M4, M4 = M'.push (.cells false s2 x.cells) := ⟨_, rfl⟩
        obtain ⟨bs, hbs⟩ : ∃ bs, bs = M'.size := ⟨_, rfl⟩
        have hg4 : M4.get bs = some (.cells false s2 x.cells) := by rw [hM4, hbs, Mem.get_push_new]
        have gr4 : Grown M' M4 := by rw [hM4]; exact Grown.push _ _
        have hs4 : M4.size = M'.size + 1 := by rw [hM4, Mem.size_push]
        have cx : cellIn 0 (some (.cells false s2 x.cells)) = some (.int .i64 x.id) := rfl
        have rx : rowIn 7 0 (some (.cells false s2 x.cells)) = some (.agg x.cells.toArray) := rfl
        rw [← hM4, ← hbs]
        have hA4 := keepA M4 fun b y hb hy => gr4.get b y (hold b y hb hy)
        refine CW_seq (CW_region ?_)
        simp only [zZ, reduceIte, Nat.reduceLT, Int.reduceToNat, Int.reduceLE, Int.reduceEq, Int.reduceLT, Nat.reduceEqDiff, Nat.reduceAdd, zMn, hg4, cx]
        refine ⟨by kernel_rfl, _, at_spec x.id K M4 _ A hA4 hla, ?_⟩
        rintro _ M5 ⟨rfl, gr5⟩
        have hg5 := gr5.get _ _ hg4
        have gr := gr4.trans gr5
        have hold5 : ∀ b y, b < M.size → M.get b = some y → M5.get b = some y := fun b y hb hy => gr.get b y (hold b y hb hy)
        have h7' := h7.same (M' := M5) fun b y _ hy => gr.get b y hy
        have h9' := h9.same (M' := M5) fun b y _ hy => gr.get b y hy
        have hs5 : M'.size + 1 ≤ M5.size := by have := gr5.size; omega
        have l7 := filt_len B (isMiss A) i
        have l9 := filt_len B (isOther A) i
        simp only [zZ, reduceIte, Nat.reduceLT, Int.reduceToNat, Int.reduceLE, Int.reduceEq, Int.reduceLT, Nat.reduceEqDiff, Nat.reduceAdd, zMn]
        refine CW_block (CW_seq (CW_region ?_))
        simp only [zZ, reduceIte, Nat.reduceLT, Int.reduceToNat, Int.reduceLE, Int.reduceEq, Int.reduceLT, Nat.reduceEqDiff, Nat.reduceAdd, zMn]
        have e7 := filt_step (p := isMiss A) hX
        have e9 := filt_step (p := isOther A) hX
        refine CW_cond (decide (findH A x.id < 0)) (by rfl) (fun hm => CW_region ?_) (fun hm => ?_)
        · have hm1 : isMiss A x = true := hm
          have ho1 : isOther A x = false := by unfold isOther; rw [hm1]; rfl
          rw [hm1, if_pos rfl] at e7
          rw [ho1, if_neg (by decide), List.append_nil] at e9
          obtain ⟨M6, V6, ap6, hb6, hown6, hs6, hold6⟩ := iapp h7' (by omega) (by omega) x.id
          have nw := new_int1 x.id
          simp only [zZ, reduceIte, Nat.reduceLT, Int.reduceToNat, Int.reduceLE, Int.reduceEq, Int.reduceLT, Nat.reduceEqDiff, Nat.reduceAdd, zMn, hg5, cx, nw, ap6]
          refine CW_region ?_
          simp only [zZ, reduceIte, Nat.reduceLT, Int.reduceToNat, Int.reduceLE, Int.reduceEq, Int.reduceLT, Nat.reduceEqDiff, Nat.reduceAdd, zMn, w9]
          refine ⟨[0, 1, 7, 8, 9, 10, 17, 18, 19], ?_⟩
          simp only [zZ, reduceIte, Nat.reduceLT, Int.reduceToNat, Int.reduceLE, Int.reduceEq, Int.reduceLT, Nat.reduceEqDiff, Nat.reduceAdd, keepF]
          rw [← e7] at hown6
          rw [← e9] at h9'
          exact ⟨M6, Thin.refl _, B.length - (i + 1), ⟨i + 1, V6, V9, rfl, rfl, by omega, hown6, h9'.same fun b y hb hy => hold6 b y (fun e => hdj b e hb) hy, fun b hb hb' => by
            rw [hb6] at hb; cases hb
            have := (h9'.live hb').2; omega, fun b y hb hy => hold6 b y (fun e => by have := (h7.live e).1; omega) (hold5 b y hb hy), by omega⟩, by omega⟩
        · have hm1 : isMiss A x = false := hm
          have hm2 : ¬ findH A x.id < 0 := of_decide_eq_false hm
          rw [hm1, if_neg (by decide), List.append_nil] at e7
          obtain ⟨jj, y, hj, hY, _⟩ : ∃ (j : Nat) (y : Header), findH A x.id = (j : Int) ∧ A[j]? = some y ∧ y.id = x.id := by
            rcases findH_cases A x.id with ⟨h1, _⟩ | h
            · omega
            · exact h
          have ho : isOther A x = !sameH y x := by unfold isOther; rw [hm1, hj, Int.toNat_natCast, hY]; rfl
          obtain ⟨ga, rfl, hga⟩ := (keepA M5 hold5).at hY
          have r2 := hdr_row hga hY
          have hjl := (List.getElem?_eq_some_iff.1 hY).1
          have z1 : (0 : Int) ≤ (jj : Int) := by omega
          have z2 : (jj : Int) < (A.length : Int) := by omega
          rw [hj]
          refine CW_seq (CW_draw hmix 5 (by kernel_rfl) (by kernel_rfl) ?_)
          simp only [zZ, reduceIte, Nat.reduceLT, Int.reduceToNat, Int.reduceLE, Int.reduceEq, Int.reduceLT, Nat.reduceEqDiff, Nat.reduceAdd, zMn, z1, z2, and_self, r2, hg5, rx, hdr_neq]
          refine CW_cond (!sameH y x) (by rfl) (fun hs => CW_region ?_) (fun hs => CW_skip ?_)
          · rw [ho, hs, if_pos rfl] at e9
            obtain ⟨M6, V6, ap6, hb6, hown6, hs6, hold6⟩ := iapp h9' (by omega) (by omega) x.id
            have nw := new_int1 x.id
            simp only [zZ, reduceIte, Nat.reduceLT, Int.reduceToNat, Int.reduceLE, Int.reduceEq, Int.reduceLT, Nat.reduceEqDiff, Nat.reduceAdd, zMn, hg5, cx, nw, ap6]
            refine CW_region ?_
            simp only [zZ, reduceIte, Nat.reduceLT, Int.reduceToNat, Int.reduceLE, Int.reduceEq, Int.reduceLT, Nat.reduceEqDiff, Nat.reduceAdd, zMn, w9]
            refine ⟨[0, 1, 7, 8, 9, 10, 17, 18, 19], ?_⟩
            simp only [zZ, reduceIte, Nat.reduceLT, Int.reduceToNat, Int.reduceLE, Int.reduceEq, Int.reduceLT, Nat.reduceEqDiff, Nat.reduceAdd, keepF]
            rw [← e7] at h7'
            rw [← e9] at hown6
            exact ⟨M6, Thin.refl _, B.length - (i + 1), ⟨i + 1, V7, V6, rfl, rfl, by omega, h7'.same fun b y hb hy => hold6 b y (fun e => hdj b hb e) hy, hown6, fun b hb hb' => by
              rw [hb6] at hb'; cases hb'
              have := (h7'.live hb).2; omega, fun b y hb hy => hold6 b y (fun e => by have := (h9.live e).1; omega) (hold5 b y hb hy), by omega⟩, by omega⟩
          · rw [ho, hs, if_neg (by decide), List.append_nil] at e9
            simp only [zZ, reduceIte, Nat.reduceLT, Int.reduceToNat, Int.reduceLE, Int.reduceEq, Int.reduceLT, Nat.reduceEqDiff, Nat.reduceAdd]
            refine CW_region ?_
            simp only [zZ, reduceIte, Nat.reduceLT, Int.reduceToNat, Int.reduceLE, Int.reduceEq, Int.reduceLT, Nat.reduceEqDiff, Nat.reduceAdd, zMn, w9]
            refine ⟨[0, 1, 7, 8, 9, 10, 17, 18, 19], ?_⟩
            simp only [zZ, reduceIte, Nat.reduceLT, Int.reduceToNat, Int.reduceLE, Int.reduceEq, Int.reduceLT, Nat.reduceEqDiff, Nat.reduceAdd, keepF]
            rw [← e7] at h7'
            rw [← e9] at h9'
            exact ⟨M5, Thin.refl _, B.length - (i + 1), ⟨i + 1, V7, V9, rfl, rfl, by omega, h7', h9', hdj, hold5, by omega⟩, by omega⟩
      · have hiL := of_decide_eq_false hq
        refine ⟨[0, 1, 7, 8, 9, 10], ?_⟩
        simp only [zZ, reduceIte, Nat.reduceLT, Int.reduceToNat, Int.reduceLE, Int.reduceEq, Int.reduceLT, Nat.reduceEqDiff, Nat.reduceAdd, keepF]
        rw [List.take_of_length_le (by omega)] at h7 h9
        exact ⟨M', Thin.refl _, V7, V9, rfl, h7, h9, hdj, hold, hsz⟩
  rintro _ M1 ⟨V7, V9, rfl, h7, h9, hdj, hold1, hs1⟩
  refine MW_mid (fun f M' => ∃ V8, f = [(7, V7), (8, V8), (9, V9)] ∧
    IntsOwn M1.size M' V8 (missL B A) ∧ (∀ b x, b < M1.size → M1.get b = some x → M'.get b = some x) ∧ M1.size ≤ M'.size) ?_ ?_
  · refine CW_seq (CW_region ?_)
    simp only [zZ, reduceIte, Nat.reduceLT, Int.reduceToNat, Int.reduceLE, Int.reduceEq, Int.reduceLT, Nat.reduceEqDiff, Nat.reduceAdd, zMn]
    refine CW_block (MW_loop (fun j f M' => ∃ (i : Nat) (V8 : Value), j = A.length - i ∧ f = [(0, .slice a0 A.length c0), (1, .slice b0 B.length d0), (7, V7), (8, V8), (9, V9), (10, .func (.func 32) #[] #[]), (49, .slice a0 A.length c0), (50, .int .i64 (A.length : Nat)), (51, .int .i64 (i : Nat))] ∧ i ≤ A.length ∧
      IntsOwn M1.size M' V8 (((A.take i).filter (isMiss B)).map Header.id) ∧ (∀ b x, b < M1.size → M1.get b = some x → M'.get b = some x) ∧ M1.size ≤ M'.size) A.length ?_ ?_)
    · refine ⟨[0, 1, 7, 8, 9, 10, 49, 50, 51], ?_⟩
      simp only [zZ, reduceIte, Nat.reduceLT, Int.reduceToNat, Int.reduceLE, Int.reduceEq, Int.reduceLT, Nat.reduceEqDiff, Nat.reduceAdd, keepF]
      exact ⟨M1, Thin.refl _, 0, _, rfl, rfl, by omega, .inl ⟨by simp, rfl⟩, fun _ _ _ h => h, Nat.le_refl _⟩
    · rintro j f M' ⟨i, V8, rfl, rfl, hi, h8, hold, hsz⟩
      have holdM : ∀ b x, b < M.size → M.get b = some x → M'.get b = some x := fun b x hb hx => hold b x (by omega) (hold1 b x hb hx)
      refine CW_seq (CW_region ?_)
      simp only [zZ, reduceIte, Nat.reduceLT, Int.reduceToNat, Int.reduceLE, Int.reduceEq, Int.reduceLT, Nat.reduceEqDiff, Nat.reduceAdd, zMn]
      refine CW_seq (CW_cond (decide ((i : Int) < (A.length : Int))) (by rfl) (fun hq => CW_skip ?_) (fun hq => CW_exit ?_))
      · have hiL := of_decide_eq_true hq
        obtain ⟨x, hX⟩ : ∃ x, A[i]? = some x := ⟨_, List.getElem?_eq_getElem (by omega)⟩
        obtain ⟨gb, rfl, hgb⟩ := (keepA M' holdM).at hX
        have z0 : (0 : Int) ≤ (i : Int) := by omega
        have r1 := hdr_row hgb hX
        have hput := put M' x
        have w9 : IntKind.i64.wrap ((i : Int) + 1) = ((i + 1 : Nat) : Int) := by rw [wri (by omega) (by omega)]; omega
        simp only [zZ, reduceIte, Nat.reduceLT, Int.reduceToNat, Int.reduceLE, Int.reduceEq, Int.reduceLT, Nat.reduceEqDiff, Nat.reduceAdd]
        refine CW_seq (CW_block (CW_seq (CW_region ?_)))
        simp only [zZ, reduceIte, Nat.reduceLT, Int.reduceToNat, Int.reduceLE, Int.reduceEq, Int.reduceLT, Nat.reduceEqDiff, Nat.reduceAdd, zMn, z0, hiL, and_self, r1, hal, Mem.get_push_new, agg_cells, hput]
        obtain ⟨M4, hM4⟩ : ∃ M4, M4 = M'.push (.cells false s2 x.cells) := ⟨_, rfl⟩
        obtain ⟨bs, hbs⟩ : ∃ bs, bs = M'.size := ⟨_, rfl⟩
        have hg4 : M4.get bs = some (.cells false s2 x.cells) := by rw [hM4, hbs, Mem.get_push_new]
        have gr4 : Grown M' M4 := by rw [hM4]; exact Grown.push _ _
        have hs4 : M4.size = M'.size + 1 := by rw [hM4, Mem.size_push]
        have cx : cellIn 0 (some (.cells false s2 x.cells)) = some (.int .i64 x.id) := rfl
        rw [← hM4, ← hbs]
        have hB4 := keepB M4 fun b y hb hy => gr4.get b y (holdM b y hb hy)
        refine CW_seq (CW_region ?_)
        simp only [zZ, reduceIte, Nat.reduceLT, Int.reduceToNat, Int.reduceLE, Int.reduceEq, Int.reduceLT, Nat.reduceEqDiff, Nat.reduceAdd, zMn, hg4, cx]
        refine ⟨by kernel_rfl, _, at_spec x.id K' M4 _ B hB4 hlb, ?_⟩
        rintro _ M5 ⟨rfl, gr5⟩
        have hg5 := gr5.get _ _ hg4
        have gr := gr4.trans gr5
        have hold5 : ∀ b y, b < M1.size → M1.get b = some y → M5.get b = some y := fun b y hb hy => gr.get b y (hold b y hb hy)
        have h8' := h8.same (M' := M5) fun b y _ hy => gr.get b y hy
        have hs5 : M'.size + 1 ≤ M5.size := by have := gr5.size; omega
        have l8 := filt_len A (isMiss B) i
        have e8 := filt_step (p := isMiss B) hX
        simp only [zZ, reduceIte, Nat.reduceLT, Int.reduceToNat, Int.reduceLE, Int.reduceEq, Int.reduceLT, Nat.reduceEqDiff, Nat.reduceAdd, zMn]
        refine CW_cond (decide (findH B x.id < 0)) (by rfl) (fun hm => CW_region ?_) (fun hm => CW_skip ?_)
        · have hm1 : isMiss B x = true := hm
          rw [hm1, if_pos rfl] at e8
          obtain ⟨M6, V6, ap6, hb6, hown6, hs6, hold6⟩ := iapp h8' (by omega) (by omega) x.id
          have nw := new_int1 x.id
          simp only [zZ, reduceIte, Nat.reduceLT, Int.reduceToNat, Int.reduceLE, Int.reduceEq, Int.reduceLT, Nat.reduceEqDiff, Nat.reduceAdd, zMn, hg5, cx, nw, ap6]
          refine CW_region ?_
          simp only [zZ, reduceIte, Nat.reduceLT, Int.reduceToNat, Int.reduceLE, Int.reduceEq, Int.reduceLT, Nat.reduceEqDiff, Nat.reduceAdd, zMn, w9]
          refine ⟨[0, 1, 7, 8, 9, 10, 49, 50, 51], ?_⟩
          simp only [zZ, reduceIte, Nat.reduceLT, Int.reduceToNat, Int.reduceLE, Int.reduceEq, Int.reduceLT, Nat.reduceEqDiff, Nat.reduceAdd, keepF]
          rw [← e8] at hown6
          exact ⟨M6, Thin.refl _, A.length - (i + 1), ⟨i + 1, V6, rfl, rfl, by omega, hown6, fun b y hb hy => hold6 b y (fun e => by have := (h8.live e).1; omega) (hold5 b y hb hy), by omega⟩, by omega⟩
        · have hm1 : isMiss B x = false := hm
          rw [hm1, if_neg (by decide), List.append_nil] at e8
          simp only [zZ, reduceIte, Nat.reduceLT, Int.reduceToNat, Int.reduceLE, Int.reduceEq, Int.reduceLT, Nat.reduceEqDiff, Nat.reduceAdd]
          refine CW_region ?_
          simp only [zZ, reduceIte, Nat.reduceLT, Int.reduceToNat, Int.reduceLE, Int.reduceEq, Int.reduceLT, Nat.reduceEqDiff, Nat.reduceAdd, zMn, w9]
          refine ⟨[0, 1, 7, 8, 9, 10, 49, 50, 51], ?_⟩
          simp only [zZ, reduceIte, Nat.reduceLT, Int.reduceToNat, Int.reduceLE, Int.reduceEq, Int.reduceLT, Nat.reduceEqDiff, Nat.reduceAdd, keepF]
          rw [← e8] at h8'
          exact ⟨M5, Thin.refl _, A.length - (i + 1), ⟨i + 1, V8, rfl, rfl, by omega, h8', hold5, by omega⟩, by omega⟩
      · have hiL := of_decide_eq_false hq
        refine ⟨[7, 8, 9], ?_⟩
        simp only [zZ, reduceIte, Nat.reduceLT, Int.reduceToNat, Int.reduceLE, Int.reduceEq, Int.reduceLT, Nat.reduceEqDiff, Nat.reduceAdd, keepF]
        rw [List.take_of_length_le (by omega)] at h8
        exact ⟨M', Thin.refl _, V8, rfl, h8, hold, hsz⟩
  rintro _ M2 ⟨V8, rfl, h8, hold2, hs2⟩
  have h7' := h7.same (M' := M2) fun b y hb hy => hold2 b y (h7.live hb).2 hy
  have h9' := h9.same (M' := M2) fun b y hb hy => hold2 b y (h9.live hb).2 hy
  have n7 : (missL A B).length ≤ 1000 := by have := filt_len B (isMiss A) B.length; rw [List.take_length] at this; unfold missL; omega
  have n8 : (missL B A).length ≤ 1000 := by have := filt_len A (isMiss B) A.length; rw [List.take_length] at this; unfold missL; omega
  have n9 : (otherL A B).length ≤ 1000 := by have := filt_len B (isOther A) B.length; rw [List.take_length] at this; unfold otherL; omega
  refine CW_seq (CW_region ?_)
  simp only [zZ, reduceIte, Nat.reduceLT, Int.reduceToNat, Int.reduceLE, Int.reduceEq, Int.reduceLT, Nat.reduceEqDiff, Nat.reduceAdd, zMn]
  refine CW_seq (CW_region ?_)
  simp only [zZ, reduceIte, Nat.reduceLT, Int.reduceToNat, Int.reduceLE, Int.reduceEq, Int.reduceLT, Nat.reduceEqDiff, Nat.reduceAdd, zMn]
  refine ⟨by kernel_rfl, _, tidy_spec _ M2 V7 _ h7' n7, ?_⟩
  rintro U1 M3 ⟨⟨R1, hR1, hrd1⟩, ho3, hs3, hu1⟩
  have h8' := h8.same (M' := M3) fun b y hb hy => ho3 b y (fun e => by have := (h7.live e).2; have := (h8.live hb).1; omega) hy
  have h9'' := h9'.same (M' := M3) fun b y hb hy => ho3 b y (fun e => hdj b e hb) hy
  simp only [zZ, reduceIte, Nat.reduceLT, Int.reduceToNat, Int.reduceLE, Int.reduceEq, Int.reduceLT, Nat.reduceEqDiff, Nat.reduceAdd, zMn]
  refine ⟨by kernel_rfl, _, tidy_spec _ M3 V8 _ h8' n8, ?_⟩
  rintro U2 M4 ⟨⟨R2, hR2, hrd2⟩, ho4, hs4, hu2⟩
  have h9''' := h9''.same (M' := M4) fun b y hb hy => ho4 b y (fun e => by have := (h9.live hb).2; have := (h8.live e).1; omega) hy
  have hrd1' := hrd1.same (M' := M4) fun b y hb hy => ho4 b y (fun e => by have := (h7.live (hu1 b hb)).2; have := (h8.live e).1; omega) hy
  simp only [zZ, reduceIte, Nat.reduceLT, Int.reduceToNat, Int.reduceLE, Int.reduceEq, Int.reduceLT, Nat.reduceEqDiff, Nat.reduceAdd, zMn]
  refine ⟨by kernel_rfl, _, tidy_spec _ M4 V9 _ h9''' n9, ?_⟩
  rintro U3 M5 ⟨⟨R3, hR3, hrd3⟩, ho5, hs5, hu3⟩
  have hrd1'' := hrd1'.same (M' := M5) fun b y hb hy => ho5 b y (fun e => hdj b (hu1 b hb) e) hy
  have hrd2' := hrd2.same (M' := M5) fun b y hb hy => ho5 b y (fun e => by have := (h9.live e).2; have := (h8.live (hu2 b hb)).1; omega) hy
  simp only [zZ, reduceIte, Nat.reduceLT, Int.reduceToNat, Int.reduceLE, Int.reduceEq, Int.reduceLT, Nat.reduceEqDiff, Nat.reduceAdd, zMn]
  refine CW_ret ?_
  simp only [zZ, reduceIte, Nat.reduceLT, Int.reduceToNat, Int.reduceLE, Int.reduceEq, Int.reduceLT, Nat.reduceEqDiff, Nat.reduceAdd, zMn, mEnd, sAnswer, sAnswer.sRes]
  refine ⟨M5, Thin.refl _, ⟨U1, U2, U3, R1, R2, R3, rfl, hR1, hR2, hR3, hrd1'', hrd2', hrd3⟩, fun b x hb hx => ?_, by omega⟩
  refine ho5 b x (fun e => ?_) (ho4 b x (fun e => ?_) (ho3 b x (fun e => ?_) (hold2 b x (by omega) (hold1 b x hb hx))))
  · have := (h9.live e).1; omega
  · have := (h8.live e).1; omega
  · have := (h7.live e).1; omega
end Go.Proofs.YtabffcplbjaklaaGreatDoor
namespace Go.Proofs.YtabffcplbjaklaaGreatDoor
open Go.RowKit Abs
theorem inc_snoc {O : List Int} {x : Int} (h : Inc O) (hl : ∀ y ∈ O, y < x) : Inc (O ++ [x]) := List.pairwise_append.2 ⟨h, by simp, fun a ha b hb => by rw [List.mem_singleton] at hb; subst hb; exact hl a ha⟩
theorem IntsOwn.cell {K : Nat} {M : Mem} {a : Option Addr} {n c : Nat} {L : List Int} (h : IntsOwn K M (.slice a n c) L) {i : Nat} {x : Int} (hx : L[i]? = some x) : ∃ g, a = some ⟨g, 0, none⟩ ∧ M.get g = some (.cells false 1 (L.flatMap encZ)) ∧ cellIn i (some (.cells false 1 (L.flatMap encZ))) = some (.int .i64 x) := by
  obtain ⟨g, h1, _, h2⟩ := OwnL.at h hx
  exact ⟨g, h1, h2, cell_one (f := Value.int .i64) hx false 1⟩
set_option maxRecDepth 100000 in
set_option maxHeartbeats 4000000 in
theorem add_spec (n : Int) (K : Nat) (M : Mem) (V : Value) (R : List Int) (h : IntsOwn K M V R) (hK : K ≤ M.size) (hl : R.length ≤ 1000) (hinc : Inc R) :
    Abs.Spec Tryz.prog 39 [V, .int .i64 n] M fun u M' => (∃ R', IntsOwn K M' u R' ∧ Inc R' ∧ (∀ m, m ∈ R' ↔ m ∈ R ∨ m = n) ∧ R'.length ≤ R.length + 1) ∧ (∀ b x, b < M.size → M.get b = some x → M'.get b = some x) ∧ M.size ≤ M'.size := by
  obtain ⟨a0, c0, hV⟩ := h.len
  subst hV
  have hp := List.pairwise_iff_getElem.1 hinc
  refine Abs.Spec.walkM Tryz.func39 (by rfl) _ Tryz.results39 _ Tryz.ntmps39 (by simp) ?_
  intro hc hx k
  refine CW_seq (CW_region ?_)
  simp only [zZ, reduceIte, Nat.reduceLT, Int.reduceToNat, Int.reduceLE, Int.reduceEq, Int.reduceLT, Nat.reduceEqDiff, Nat.reduceAdd, zMn]
  refine CW_seq (CW_region ?_)
  simp only [zZ, reduceIte, Nat.reduceLT, Int.reduceToNat, Int.reduceLE, Int.reduceEq, Int.reduceLT, Nat.reduceEqDiff, Nat.reduceAdd, zMn]
  refine CW_seq (CW_region ?_)
  simp only [zZ, reduceIte, Nat.reduceLT, Int.reduceToNat, Int.reduceLE, Int.reduceEq, Int.reduceLT, Nat.reduceEqDiff, Nat.reduceAdd, zMn]
  refine MW_mid (fun f M' => ∃ (V5 : Value) (O : List Int) (d : Bool), f = [(1, .int .i64 n), (5, V5), (6, .bool d)] ∧ IntsOwn M.size M' V5 O ∧ Inc O ∧ (∀ m, m ∈ O ↔ m ∈ R ∨ (d = true ∧ m = n)) ∧ (d = false → ∀ y ∈ R, y < n) ∧ O.length ≤ R.length + (if d then 1 else 0) ∧
    (∀ b x, b < M.size → M.get b = some x → M'.get b = some x) ∧ M.size ≤ M'.size) ?_ ?_
  · refine CW_seq (CW_region ?_)
    simp only [zZ, reduceIte, Nat.reduceLT, Int.reduceToNat, Int.reduceLE, Int.reduceEq, Int.reduceLT, Nat.reduceEqDiff, Nat.reduceAdd, zMn]
    refine CW_block (MW_loop (fun j f M' => ∃ (i : Nat) (V5 : Value) (O : List Int) (d : Bool), j = R.length - i ∧ f = [(0, .slice a0 R.length c0), (1, .int .i64 n), (5, V5), (6, .bool d), (7, .int .i64 (i : Nat))] ∧ i ≤ R.length ∧ IntsOwn M.size M' V5 O ∧ Inc O ∧ (∀ m, m ∈ O ↔ m ∈ R.take i ∨ (d = true ∧ m = n)) ∧
      (d = false → ∀ y ∈ R.take i, y < n) ∧ (d = true → ∃ y ∈ R.take i, n < y) ∧ O.length ≤ i + (if d then 1 else 0) ∧ (∀ b x, b < M.size → M.get b = some x → M'.get b = some x) ∧ M.size ≤ M'.size) R.length ?_ ?_)
    · refine ⟨[0, 1, 5, 6, 7], ?_⟩
      simp only [zZ, reduceIte, Nat.reduceLT, Int.reduceToNat, Int.reduceLE, Int.reduceEq, Int.reduceLT, Nat.reduceEqDiff, Nat.reduceAdd, keepF]
      exact ⟨M, Thin.refl _, 0, _, [], false, rfl, rfl, by omega, .inl ⟨rfl, rfl⟩, List.Pairwise.nil, fun m => by simp, fun _ y hy => by simp at hy, fun h => (Bool.false_ne_true h).elim, by simp, fun _ _ _ h => h, Nat.le_refl _⟩
    · rintro j f M' ⟨i, V5, O, d, rfl, rfl, hi, hO, hOi, hOm, hd0, hd1, hOl, hold, hsz⟩
      refine CW_seq (CW_seq (CW_region ?_))
      simp only [zZ, reduceIte, Nat.reduceLT, Int.reduceToNat, Int.reduceLE, Int.reduceEq, Int.reduceLT, Nat.reduceEqDiff, Nat.reduceAdd, zMn]
      refine CW_cond (decide ((i : Int) < (R.length : Int))) (by rfl) (fun hq => CW_skip ?_) (fun hq => CW_exit ?_)
      · have hiL := of_decide_eq_true hq
        obtain ⟨x, hX⟩ : ∃ x, R[i]? = some x := ⟨_, List.getElem?_eq_getElem (by omega)⟩
        obtain ⟨hil, hXe⟩ := List.getElem?_eq_some_iff.1 hX
        obtain ⟨g, rfl, hg, hcx⟩ := IntsOwn.cell (OwnL.same h (M' := M') fun b y hb hy => hold b y (h.live hb).2 hy) hX
        have z0 : (0 : Int) ≤ (i : Int) := by omega
        have w9 : IntKind.i64.wrap ((i : Int) + 1) = ((i + 1 : Nat) : Int) := by rw [wri (by omega) (by omega)]; omega
        have hOl' : O.length ≤ 1001 := by split at hOl <;> omega
        have below : ∀ y ∈ R.take i, y < x := fun y hy => by
          obtain ⟨q, hq, rfl⟩ := List.getElem_of_mem hy
          rw [List.length_take] at hq
          rw [List.getElem_take, ← hXe]
          exact hp q i (by omega) hil (by omega)
        have tk : R.take (i + 1) = R.take i ++ [x] := by rw [List.take_add_one, hX]; rfl
        simp only [zZ, reduceIte, Nat.reduceLT, Int.reduceToNat, Int.reduceLE, Int.reduceEq, Int.reduceLT, Nat.reduceEqDiff, Nat.reduceAdd]
        refine CW_seq (CW_block (CW_seq (CW_seq (CW_region ?_))))
        simp only [zZ, reduceIte, Nat.reduceLT, Int.reduceToNat, Int.reduceLE, Int.reduceEq, Int.reduceLT, Nat.reduceEqDiff, Nat.reduceAdd, zMn, z0, hiL, and_self, hg, hcx]
        refine CW_cond (x == n) (by rfl) (fun he => CW_seq (CW_region ?_)) (fun he => CW_skip ?_)
        · have he : x = n := by simpa using he
          simp only [zZ, reduceIte, Nat.reduceLT, Int.reduceToNat, Int.reduceLE, Int.reduceEq, Int.reduceLT, Nat.reduceEqDiff, Nat.reduceAdd, zMn]
          refine CW_ret ?_
          simp only [zZ, reduceIte, Nat.reduceLT, Int.reduceToNat, Int.reduceLE, Int.reduceEq, Int.reduceLT, Nat.reduceEqDiff, Nat.reduceAdd, zMn, mEnd, sAnswer, sAnswer.sRes]
          refine ⟨M', Thin.refl _, ⟨R, h.same fun b y hb hy => hold b y (h.live hb).2 hy, hinc, fun m => ?_, by omega⟩, hold, hsz⟩
          constructor
          · exact .inl
          · rintro (h1 | rfl)
            · exact h1
            · rw [← he]; exact List.mem_of_getElem? hX
        have he : x ≠ n := by simpa using he
        simp only [zZ, reduceIte, Nat.reduceLT, Int.reduceToNat, Int.reduceLE, Int.reduceEq, Int.reduceLT, Nat.reduceEqDiff, Nat.reduceAdd]
        refine CW_seq (CW_seq (CW_region ?_))
        cases q1 : decide (x > n)
        · have hxn : x < n := by have := of_decide_eq_false q1; omega
          obtain rfl : d = false := by
            cases d with
            | false => rfl
            | true => obtain ⟨y, hy, h2⟩ := hd1 rfl; have := below y hy; omega
          have hlt : ∀ y ∈ O, y < x := fun y hy => by
            rcases (hOm y).1 hy with h1 | ⟨h1, _⟩
            · exact below y h1
            · cases h1
          obtain ⟨M6, V6, ap6, hb6, hown6, hs6, hold6⟩ := iapp hO hsz (by omega) x
          have nw := new_int1 x
          simp only [zZ, reduceIte, Nat.reduceLT, Int.reduceToNat, Int.reduceLE, Int.reduceEq, Int.reduceLT, Nat.reduceEqDiff, Nat.reduceAdd, zMn, z0, hiL, and_self, hg, hcx, q1]
          refine CW_cond false (by rfl) (fun h => by cases h) (fun _ => CW_skip ?_)
          simp only [zZ, reduceIte, Nat.reduceLT, Int.reduceToNat, Int.reduceLE, Int.reduceEq, Int.reduceLT, Nat.reduceEqDiff, Nat.reduceAdd]
          refine CW_region ?_
          simp only [zZ, reduceIte, Nat.reduceLT, Int.reduceToNat, Int.reduceLE, Int.reduceEq, Int.reduceLT, Nat.reduceEqDiff, Nat.reduceAdd, zMn, z0, hiL, and_self, hg, hcx, nw, ap6]
          refine CW_region ?_
          simp only [zZ, reduceIte, Nat.reduceLT, Int.reduceToNat, Int.reduceLE, Int.reduceEq, Int.reduceLT, Nat.reduceEqDiff, Nat.reduceAdd, zMn, w9]
          refine ⟨[0, 1, 5, 6, 7], ?_⟩
          simp only [zZ, reduceIte, Nat.reduceLT, Int.reduceToNat, Int.reduceLE, Int.reduceEq, Int.reduceLT, Nat.reduceEqDiff, Nat.reduceAdd, keepF]
          refine ⟨M6, Thin.refl _, R.length - (i + 1), ⟨i + 1, V6, O ++ [x], false, rfl, rfl, by omega, hown6, inc_snoc hOi hlt, fun m => ?_, fun _ y hy => ?_, fun h => (Bool.false_ne_true h).elim, ?_, fun b y hb hy => hold6 b y (fun e => by have := (hO.live e).1; omega) (hold b y hb hy), by omega⟩, by omega⟩
          · rw [tk, List.mem_append, List.mem_append, hOm m, List.mem_singleton]
            simp
          · rw [tk, List.mem_append, List.mem_singleton] at hy
            rcases hy with hy | rfl
            · exact hd0 rfl y hy
            · exact hxn
          · simp only [List.length_append, List.length_cons, List.length_nil]
            simp at hOl
            simp; omega
        · have hxn : n < x := of_decide_eq_true q1
          cases d with
          | false =>
            have hltn : ∀ y ∈ O, y < n := fun y hy => by
              rcases (hOm y).1 hy with h1 | ⟨h1, _⟩
              · exact hd0 rfl y h1
              · cases h1
            have hinc1 : Inc (O ++ [n]) := inc_snoc hOi hltn
            have hlt2 : ∀ y ∈ O ++ [n], y < x := fun y hy => by
              rw [List.mem_append, List.mem_singleton] at hy
              rcases hy with hy | rfl
              · have := hltn y hy; omega
              · exact hxn
            obtain ⟨M5, V5', ap5, hb5, hown5, hs5, hold5⟩ := iapp hO hsz (by omega) n
            have old5 : ∀ b y, b < M.size → M.get b = some y → M5.get b = some y := fun b y hb hy => hold5 b y (fun e => by have := (hO.live e).1; omega) (hold b y hb hy)
            obtain ⟨M6, V6, ap6, hb6, hown6, hs6, hold6⟩ := iapp hown5 (by omega) (by simp; omega) x
            have nw := new_int1 x
            have nwn := new_int1 n
            obtain ⟨g', hge, hg', hcx'⟩ := IntsOwn.cell (OwnL.same h (M' := M5) fun b y hb hy => old5 b y (h.live hb).2 hy) hX
            obtain rfl : g = g' := by cases hge; rfl
            simp only [zZ, reduceIte, Nat.reduceLT, Int.reduceToNat, Int.reduceLE, Int.reduceEq, Int.reduceLT, Nat.reduceEqDiff, Nat.reduceAdd, zMn, z0, hiL, and_self, hg, hcx, q1]
            refine CW_cond true (by rfl) (fun _ => CW_seq (CW_region ?_)) (fun h => by cases h)
            simp only [zZ, reduceIte, Nat.reduceLT, Int.reduceToNat, Int.reduceLE, Int.reduceEq, Int.reduceLT, Nat.reduceEqDiff, Nat.reduceAdd, zMn, nwn, ap5]
            refine CW_region ?_
            simp only [zZ, reduceIte, Nat.reduceLT, Int.reduceToNat, Int.reduceLE, Int.reduceEq, Int.reduceLT, Nat.reduceEqDiff, Nat.reduceAdd, zMn]
            refine CW_region ?_
            simp only [zZ, reduceIte, Nat.reduceLT, Int.reduceToNat, Int.reduceLE, Int.reduceEq, Int.reduceLT, Nat.reduceEqDiff, Nat.reduceAdd, zMn, z0, hiL, and_self, hg', hcx', nw, ap6]
            refine CW_region ?_
            simp only [zZ, reduceIte, Nat.reduceLT, Int.reduceToNat, Int.reduceLE, Int.reduceEq, Int.reduceLT, Nat.reduceEqDiff, Nat.reduceAdd, zMn, w9]
            refine ⟨[0, 1, 5, 6, 7], ?_⟩
            simp only [zZ, reduceIte, Nat.reduceLT, Int.reduceToNat, Int.reduceLE, Int.reduceEq, Int.reduceLT, Nat.reduceEqDiff, Nat.reduceAdd, keepF]
            refine ⟨M6, Thin.refl _, R.length - (i + 1), ⟨i + 1, V6, O ++ [n] ++ [x], true, rfl, rfl, by omega, hown6, inc_snoc hinc1 hlt2, fun m => ?_, fun h => (Bool.false_ne_true h.symm).elim, fun _ => ⟨x, by rw [tk]; simp, hxn⟩, ?_, fun b y hb hy => hold6 b y (fun e => by have := (hown5.live e).1; omega) (old5 b y hb hy), by omega⟩, by omega⟩
            · rw [tk, List.mem_append, List.mem_append, List.mem_append, hOm m, List.mem_singleton, List.mem_singleton]
              constructor
              · rintro ((h1 | h1) | h1)
                · rcases h1 with h1 | ⟨h1, _⟩
                  · exact .inl (.inl h1)
                  · cases h1
                · exact .inr ⟨rfl, h1⟩
                · exact .inl (.inr h1)
              · rintro ((h1 | h1) | ⟨_, h1⟩)
                · exact .inl (.inl (.inl h1))
                · exact .inr h1
                · exact .inl (.inr h1)
            · simp only [List.length_append, List.length_cons, List.length_nil]
              simp at hOl
              simp; omega
          | true =>
            have hlt : ∀ y ∈ O, y < x := fun y hy => by
              rcases (hOm y).1 hy with h1 | ⟨_, rfl⟩
              · exact below y h1
              · exact hxn
            obtain ⟨M6, V6, ap6, hb6, hown6, hs6, hold6⟩ := iapp hO hsz (by omega) x
            have nw := new_int1 x
            simp only [zZ, reduceIte, Nat.reduceLT, Int.reduceToNat, Int.reduceLE, Int.reduceEq, Int.reduceLT, Nat.reduceEqDiff, Nat.reduceAdd, zMn, z0, hiL, and_self, hg, hcx, q1]
            refine CW_cond false (by rfl) (fun h => by cases h) (fun _ => CW_skip ?_)
            simp only [zZ, reduceIte, Nat.reduceLT, Int.reduceToNat, Int.reduceLE, Int.reduceEq, Int.reduceLT, Nat.reduceEqDiff, Nat.reduceAdd]
            refine CW_region ?_
            simp only [zZ, reduceIte, Nat.reduceLT, Int.reduceToNat, Int.reduceLE, Int.reduceEq, Int.reduceLT, Nat.reduceEqDiff, Nat.reduceAdd, zMn, z0, hiL, and_self, hg, hcx, nw, ap6]
            refine CW_region ?_
            simp only [zZ, reduceIte, Nat.reduceLT, Int.reduceToNat, Int.reduceLE, Int.reduceEq, Int.reduceLT, Nat.reduceEqDiff, Nat.reduceAdd, zMn, w9]
            refine ⟨[0, 1, 5, 6, 7], ?_⟩
            simp only [zZ, reduceIte, Nat.reduceLT, Int.reduceToNat, Int.reduceLE, Int.reduceEq, Int.reduceLT, Nat.reduceEqDiff, Nat.reduceAdd, keepF]
            refine ⟨M6, Thin.refl _, R.length - (i + 1), ⟨i + 1, V6, O ++ [x], true, rfl, rfl, by omega, hown6, inc_snoc hOi hlt, fun m => ?_, fun h => (Bool.false_ne_true h.symm).elim, fun _ => ⟨x, by rw [tk]; simp, hxn⟩, ?_, fun b y hb hy => hold6 b y (fun e => by have := (hO.live e).1; omega) (hold b y hb hy), by omega⟩, by omega⟩
            · rw [tk, List.mem_append, List.mem_append, hOm m, List.mem_singleton]
              constructor
              · rintro ((h1 | h1) | h1)
                · exact .inl (.inl h1)
                · exact .inr h1
                · exact .inl (.inr h1)
              · rintro ((h1 | h1) | h1)
                · exact .inl (.inl h1)
                · exact .inr h1
                · exact .inl (.inr h1)
            · simp only [List.length_append, List.length_cons, List.length_nil]
              simp at hOl
              simp; omega
      · have hiL := of_decide_eq_false hq
        have hiE : i = R.length := by omega
        subst hiE
        rw [List.take_length] at hOm hd0
        refine ⟨[1, 5, 6], ?_⟩
        simp only [zZ, reduceIte, Nat.reduceLT, Int.reduceToNat, Int.reduceLE, Int.reduceEq, Int.reduceLT, Nat.reduceEqDiff, Nat.reduceAdd, keepF]
        exact ⟨M', Thin.refl _, V5, O, d, rfl, hO, hOi, hOm, hd0, hOl, hold, hsz⟩
  rintro _ M1 ⟨V5, O, d, rfl, hO, hOi, hOm, hd0, hOl, hold, hsz⟩
  refine CW_seq (CW_seq (CW_region ?_))
  simp only [zZ, reduceIte, Nat.reduceLT, Int.reduceToNat, Int.reduceLE, Int.reduceEq, Int.reduceLT, Nat.reduceEqDiff, Nat.reduceAdd, zMn]
  cases d with
  | false =>
    have hltn : ∀ y ∈ O, y < n := fun y hy => by
      rcases (hOm y).1 hy with h1 | ⟨h1, _⟩
      · exact hd0 rfl y h1
      · cases h1
    simp at hOl
    obtain ⟨M6, V6, ap6, hb6, hown6, hs6, hold6⟩ := iapp hO hsz (by omega) n
    have nw := new_int1 n
    refine CW_cond true (by rfl) (fun _ => CW_region ?_) (fun h => by cases h)
    simp only [zZ, reduceIte, Nat.reduceLT, Int.reduceToNat, Int.reduceLE, Int.reduceEq, Int.reduceLT, Nat.reduceEqDiff, Nat.reduceAdd, zMn, nw, ap6]
    refine CW_seq (CW_region ?_)
    simp only [zZ, reduceIte, Nat.reduceLT, Int.reduceToNat, Int.reduceLE, Int.reduceEq, Int.reduceLT, Nat.reduceEqDiff, Nat.reduceAdd, zMn]
    refine CW_ret ?_
    simp only [zZ, reduceIte, Nat.reduceLT, Int.reduceToNat, Int.reduceLE, Int.reduceEq, Int.reduceLT, Nat.reduceEqDiff, Nat.reduceAdd, zMn, mEnd, sAnswer, sAnswer.sRes]
    refine ⟨M6, Thin.refl _, ⟨O ++ [n], hown6.le (by omega), inc_snoc hOi hltn, fun m => ?_, by simp; omega⟩, fun b y hb hy => hold6 b y (fun e => by have := (hO.live e).1; omega) (hold b y hb hy), by omega⟩
    rw [List.mem_append, List.mem_singleton, hOm m]
    simp
  | true =>
    simp at hOl
    refine CW_cond false (by rfl) (fun h => by cases h) (fun _ => CW_skip ?_)
    simp only [zZ, reduceIte, Nat.reduceLT, Int.reduceToNat, Int.reduceLE, Int.reduceEq, Int.reduceLT, Nat.reduceEqDiff, Nat.reduceAdd]
    refine CW_seq (CW_region ?_)
    simp only [zZ, reduceIte, Nat.reduceLT, Int.reduceToNat, Int.reduceLE, Int.reduceEq, Int.reduceLT, Nat.reduceEqDiff, Nat.reduceAdd, zMn]
    refine CW_ret ?_
    simp only [zZ, reduceIte, Nat.reduceLT, Int.reduceToNat, Int.reduceLE, Int.reduceEq, Int.reduceLT, Nat.reduceEqDiff, Nat.reduceAdd, zMn, mEnd, sAnswer, sAnswer.sRes]
    refine ⟨M1, Thin.refl _, ⟨O, hO.le (by omega), hOi, fun m => ?_, by omega⟩, hold, hsz⟩
    rw [hOm m]
    simp
end Go.Proofs.YtabffcplbjaklaaGreatDoor
namespace Go.Proofs.YtabffcplbjaklaaGreatDoor
open Go.RowKit Abs
theorem SetOf.snoc {X R R' : List Int} {n : Int} (h : SetOf X R) (hi : Inc R') (hm : ∀ m, m ∈ R' ↔ m ∈ R ∨ m = n) : SetOf (X ++ [n]) R' :=
  ⟨hi, fun m => by rw [hm m, h.mem m, List.mem_append, List.mem_singleton]⟩
theorem SetOf.nil : SetOf [] [] := ⟨List.Pairwise.nil, fun _ => Iff.rfl⟩
set_option maxRecDepth 100000 in
set_option maxHeartbeats 8000000 in
theorem rhold_spec (K K' : Nat) (M : Mem) (Va Vb : Value) (A B : List Header) (ha : HdrsOwn K M Va A) (hb : HdrsOwn K' M Vb B) (hla : A.length ≤ 1000) (hlb : B.length ≤ 1000) :
    Abs.Spec Tryz.prog 14 [Va, Vb] M fun u M' => HoldIs A B M' u ∧ (∀ b x, b < M.size → M.get b = some x → M'.get b = some x) ∧ M.size ≤ M'.size := by
  obtain ⟨a0, c0, hV⟩ := ha.len
  subst hV
  obtain ⟨b0, d0, hV⟩ := hb.len
  subst hV
  refine Abs.Spec.walkM Tryz.func14 (by rfl) _ Tryz.results14 _ Tryz.ntmps14 (by simp) ?_
  intro hc hx k
  have keepA : ∀ M', (∀ b x, b < M.size → M.get b = some x → M'.get b = some x) → HdrsOwn K M' (.slice a0 A.length c0) A := fun M' hM => ha.same fun b x hb' hx => hM b x (ha.live hb').2 hx
  have keepB : ∀ M', (∀ b x, b < M.size → M.get b = some x → M'.get b = some x) → HdrsOwn K' M' (.slice b0 B.length d0) B := fun M' hM => hb.same fun b x hb' hx => hM b x (hb.live hb').2 hx
  refine CW_seq (CW_region ?_)
  simp only [zZ, reduceIte, Nat.reduceLT, Int.reduceToNat, Int.reduceLE, Int.reduceEq, Int.reduceLT, Nat.reduceEqDiff, Nat.reduceAdd, zMn]
  refine CW_seq (CW_region ?_)
  simp only [zZ, reduceIte, Nat.reduceLT, Int.reduceToNat, Int.reduceLE, Int.reduceEq, Int.reduceLT, Nat.reduceEqDiff, Nat.reduceAdd, zMn]
  refine MW_mid (fun f M' => ∃ V7 V9 R7 R9, f = [(0, .slice a0 A.length c0), (1, .slice b0 B.length d0), (7, V7), (8, .slice none 0 0), (9, V9)] ∧
    IntsOwn M.size M' V7 R7 ∧ IntsOwn M.size M' V9 R9 ∧ SetOf (missL A B) R7 ∧ SetOf (otherL A B) R9 ∧ (∀ b x, b < M.size → M.get b = some x → M'.get b = some x) ∧ M.size ≤ M'.size) ?_ ?_
  · refine CW_seq (CW_region ?_)
    simp only [zZ, reduceIte, Nat.reduceLT, Int.reduceToNat, Int.reduceLE, Int.reduceEq, Int.reduceLT, Nat.reduceEqDiff, Nat.reduceAdd, zMn]
    refine CW_block (MW_loop (fun j f M' => ∃ (i : Nat) (V7 V9 : Value) (R7 R9 : List Int), j = B.length - i ∧ f = [(0, .slice a0 A.length c0), (1, .slice b0 B.length d0), (7, V7), (8, .slice none 0 0), (9, V9), (10, .int .i64 (i : Nat))] ∧ i ≤ B.length ∧
      IntsOwn M.size M' V7 R7 ∧ IntsOwn M.size M' V9 R9 ∧ SetOf (((B.take i).filter (isMiss A)).map Header.id) R7 ∧ SetOf (((B.take i).filter (isOther A)).map Header.id) R9 ∧ R7.length ≤ i ∧ R9.length ≤ i ∧ (∀ b x, b < M.size → M.get b = some x → M'.get b = some x) ∧ M.size ≤ M'.size) B.length ?_ ?_)
    · refine ⟨[0, 1, 7, 8, 9, 10], ?_⟩
      simp only [zZ, reduceIte, Nat.reduceLT, Int.reduceToNat, Int.reduceLE, Int.reduceEq, Int.reduceLT, Nat.reduceEqDiff, Nat.reduceAdd, keepF]
      exact ⟨M, Thin.refl _, 0, _, _, [], [], rfl, rfl, by omega, .inl ⟨rfl, rfl⟩, .inl ⟨rfl, rfl⟩, SetOf.nil, SetOf.nil, by simp, by simp, fun _ _ _ h => h, Nat.le_refl _⟩
    · rintro j f M' ⟨i, V7, V9, R7, R9, rfl, rfl, hi, h7, h9, s7, s9, l7, l9, hold, hsz⟩
      refine CW_seq (CW_seq (CW_region ?_))
      simp only [zZ, reduceIte, Nat.reduceLT, Int.reduceToNat, Int.reduceLE, Int.reduceEq, Int.reduceLT, Nat.reduceEqDiff, Nat.reduceAdd, zMn]
      refine CW_cond (decide ((i : Int) < (B.length : Int))) (by rfl) (fun hq => CW_skip ?_) (fun hq => CW_exit ?_)
      · have hiL := of_decide_eq_true hq
        obtain ⟨x, hX⟩ : ∃ x, B[i]? = some x := ⟨_, List.getElem?_eq_getElem (by omega)⟩
        obtain ⟨gb, rfl, hgb⟩ := (keepB M' hold).at hX
        have r1 := hdr_row hgb hX
        unfold HdrsIn at hgb
        have z0 : (0 : Int) ≤ (i : Int) := by omega
        have cx := hdr_cell hX (o := 0) (by decide) false 7 (.int .i64 x.id) rfl rfl
        rw [Nat.add_zero] at cx
        have w9 : IntKind.i64.wrap ((i : Int) + 1) = ((i + 1 : Nat) : Int) := by rw [wri (by omega) (by omega)]; omega
        have e7 := filt_step (p := isMiss A) hX
        have e9 := filt_step (p := isOther A) hX
        simp only [zZ, reduceIte, Nat.reduceLT, Int.reduceToNat, Int.reduceLE, Int.reduceEq, Int.reduceLT, Nat.reduceEqDiff, Nat.reduceAdd]
        refine CW_seq (CW_block (CW_seq (CW_region ?_)))
        simp only [zZ, reduceIte, Nat.reduceLT, Int.reduceToNat, Int.reduceLE, Int.reduceEq, Int.reduceLT, Nat.reduceEqDiff, Nat.reduceAdd, zMn, z0, hiL, and_self, hgb, cx]
        refine ⟨by kernel_rfl, _, rfind_spec x.id K M' _ A (keepA M' hold) hla, ?_⟩
        rintro _ M9 ⟨rfl, e9'⟩; replace e9' := e9'.symm; subst e9'
        simp only [zZ, reduceIte, Nat.reduceLT, Int.reduceToNat, Int.reduceLE, Int.reduceEq, Int.reduceLT, Nat.reduceEqDiff, Nat.reduceAdd, zMn]
        refine CW_seq (CW_region ?_)
        simp only [zZ, reduceIte, Nat.reduceLT, Int.reduceToNat, Int.reduceLE, Int.reduceEq, Int.reduceLT, Nat.reduceEqDiff, Nat.reduceAdd, zMn]
        refine CW_cond (decide (findH A x.id < 0)) (by rfl) (fun hm => CW_region ?_) (fun hm => ?_)
        · have hm1 : isMiss A x = true := hm
          have ho1 : isOther A x = false := by unfold isOther; rw [hm1]; rfl
          rw [hm1, if_pos rfl] at e7
          rw [ho1, if_neg (by decide), List.append_nil] at e9
          simp only [zZ, reduceIte, Nat.reduceLT, Int.reduceToNat, Int.reduceLE, Int.reduceEq, Int.reduceLT, Nat.reduceEqDiff, Nat.reduceAdd, zMn, z0, hiL, and_self, hgb, cx]
          refine ⟨by kernel_rfl, _, add_spec x.id M.size M' V7 R7 h7 hsz (by omega) s7.inc, ?_⟩
          rintro U M6 ⟨⟨R', hown6, hi6, hm6, hl6⟩, hold6, hs6⟩
          simp only [zZ, reduceIte, Nat.reduceLT, Int.reduceToNat, Int.reduceLE, Int.reduceEq, Int.reduceLT, Nat.reduceEqDiff, Nat.reduceAdd, zMn]
          refine CW_region ?_
          simp only [zZ, reduceIte, Nat.reduceLT, Int.reduceToNat, Int.reduceLE, Int.reduceEq, Int.reduceLT, Nat.reduceEqDiff, Nat.reduceAdd, zMn, w9]
          refine ⟨[0, 1, 7, 8, 9, 10], ?_⟩
          simp only [zZ, reduceIte, Nat.reduceLT, Int.reduceToNat, Int.reduceLE, Int.reduceEq, Int.reduceLT, Nat.reduceEqDiff, Nat.reduceAdd, keepF]
          exact ⟨M6, Thin.refl _, B.length - (i + 1), ⟨i + 1, U, V9, R', R9, rfl, rfl, by omega, hown6, h9.same fun b y hb hy => hold6 b y (h9.live hb).2 hy, by rw [e7]; exact s7.snoc hi6 hm6, by rw [e9]; exact s9, by omega, by omega, fun b y hb hy => hold6 b y (by omega) (hold b y hb hy), by omega⟩, by omega⟩
        · have hm1 : isMiss A x = false := hm
          have hm2 : ¬ findH A x.id < 0 := of_decide_eq_false hm
          rw [hm1, if_neg (by decide), List.append_nil] at e7
          obtain ⟨jj, y, hj, hY, _⟩ : ∃ (j : Nat) (y : Header), findH A x.id = (j : Int) ∧ A[j]? = some y ∧ y.id = x.id := by
            rcases findH_cases A x.id with ⟨h1, _⟩ | h
            · omega
            · exact h
          have ho : isOther A x = !sameH y x := by unfold isOther; rw [hm1, hj, Int.toNat_natCast, hY]; rfl
          obtain ⟨ga, rfl, hga⟩ := (keepA M' hold).at hY
          have r2 := hdr_row hga hY
          have hjl := (List.getElem?_eq_some_iff.1 hY).1
          have z1 : (0 : Int) ≤ (jj : Int) := by omega
          have z2 : (jj : Int) < (A.length : Int) := by omega
          rw [hj]
          refine CW_seq (CW_draw hmix 8 (by kernel_rfl) (by kernel_rfl) ?_)
          simp only [zZ, reduceIte, Nat.reduceLT, Int.reduceToNat, Int.reduceLE, Int.reduceEq, Int.reduceLT, Nat.reduceEqDiff, Nat.reduceAdd, zMn, z0, hiL, z1, z2, and_self, r1, r2, hdr_neq]
          refine CW_cond (!sameH y x) (by rfl) (fun hs => CW_region ?_) (fun hs => CW_skip ?_)
          · rw [ho, hs, if_pos rfl] at e9
            simp only [zZ, reduceIte, Nat.reduceLT, Int.reduceToNat, Int.reduceLE, Int.reduceEq, Int.reduceLT, Nat.reduceEqDiff, Nat.reduceAdd, zMn, z0, hiL, and_self, hgb, cx]
            refine ⟨by kernel_rfl, _, add_spec x.id M.size M' V9 R9 h9 hsz (by omega) s9.inc, ?_⟩
            rintro U M6 ⟨⟨R', hown6, hi6, hm6, hl6⟩, hold6, hs6⟩
            simp only [zZ, reduceIte, Nat.reduceLT, Int.reduceToNat, Int.reduceLE, Int.reduceEq, Int.reduceLT, Nat.reduceEqDiff, Nat.reduceAdd, zMn]
            refine CW_region ?_
            simp only [zZ, reduceIte, Nat.reduceLT, Int.reduceToNat, Int.reduceLE, Int.reduceEq, Int.reduceLT, Nat.reduceEqDiff, Nat.reduceAdd, zMn, w9]
            refine ⟨[0, 1, 7, 8, 9, 10], ?_⟩
            simp only [zZ, reduceIte, Nat.reduceLT, Int.reduceToNat, Int.reduceLE, Int.reduceEq, Int.reduceLT, Nat.reduceEqDiff, Nat.reduceAdd, keepF]
            exact ⟨M6, Thin.refl _, B.length - (i + 1), ⟨i + 1, V7, U, R7, R', rfl, rfl, by omega, h7.same fun b y hb hy => hold6 b y (h7.live hb).2 hy, hown6, by rw [e7]; exact s7, by rw [e9]; exact s9.snoc hi6 hm6, by omega, by omega, fun b y hb hy => hold6 b y (by omega) (hold b y hb hy), by omega⟩, by omega⟩
          · rw [ho, hs, if_neg (by decide), List.append_nil] at e9
            simp only [zZ, reduceIte, Nat.reduceLT, Int.reduceToNat, Int.reduceLE, Int.reduceEq, Int.reduceLT, Nat.reduceEqDiff, Nat.reduceAdd]
            refine CW_region ?_
            simp only [zZ, reduceIte, Nat.reduceLT, Int.reduceToNat, Int.reduceLE, Int.reduceEq, Int.reduceLT, Nat.reduceEqDiff, Nat.reduceAdd, zMn, w9]
            refine ⟨[0, 1, 7, 8, 9, 10], ?_⟩
            simp only [zZ, reduceIte, Nat.reduceLT, Int.reduceToNat, Int.reduceLE, Int.reduceEq, Int.reduceLT, Nat.reduceEqDiff, Nat.reduceAdd, keepF]
            exact ⟨M', Thin.refl _, B.length - (i + 1), ⟨i + 1, V7, V9, R7, R9, rfl, rfl, by omega, h7, h9, by rw [e7]; exact s7, by rw [e9]; exact s9, by omega, by omega, hold, hsz⟩, by omega⟩
      · have hiL := of_decide_eq_false hq
        refine ⟨[0, 1, 7, 8, 9], ?_⟩
        simp only [zZ, reduceIte, Nat.reduceLT, Int.reduceToNat, Int.reduceLE, Int.reduceEq, Int.reduceLT, Nat.reduceEqDiff, Nat.reduceAdd, keepF]
        rw [List.take_of_length_le (by omega)] at s7 s9
        exact ⟨M', Thin.refl _, V7, V9, R7, R9, rfl, h7, h9, s7, s9, hold, hsz⟩
  rintro _ M1 ⟨V7, V9, R7, R9, rfl, h7, h9, s7, s9, hold1, hs1⟩
  refine MW_mid (fun f M' => ∃ V8 R8, f = [(7, V7), (8, V8), (9, V9)] ∧
    IntsOwn M1.size M' V8 R8 ∧ SetOf (missL B A) R8 ∧ (∀ b x, b < M1.size → M1.get b = some x → M'.get b = some x) ∧ M1.size ≤ M'.size) ?_ ?_
  · refine CW_seq (CW_region ?_)
    simp only [zZ, reduceIte, Nat.reduceLT, Int.reduceToNat, Int.reduceLE, Int.reduceEq, Int.reduceLT, Nat.reduceEqDiff, Nat.reduceAdd, zMn]
    refine CW_block (MW_loop (fun j f M' => ∃ (i : Nat) (V8 : Value) (R8 : List Int), j = A.length - i ∧ f = [(0, .slice a0 A.length c0), (1, .slice b0 B.length d0), (7, V7), (8, V8), (9, V9), (12, .int .i64 (i : Nat))] ∧ i ≤ A.length ∧
      IntsOwn M1.size M' V8 R8 ∧ SetOf (((A.take i).filter (isMiss B)).map Header.id) R8 ∧ R8.length ≤ i ∧ (∀ b x, b < M1.size → M1.get b = some x → M'.get b = some x) ∧ M1.size ≤ M'.size) A.length ?_ ?_)
    · refine ⟨[0, 1, 7, 8, 9, 12], ?_⟩
      simp only [zZ, reduceIte, Nat.reduceLT, Int.reduceToNat, Int.reduceLE, Int.reduceEq, Int.reduceLT, Nat.reduceEqDiff, Nat.reduceAdd, keepF]
      exact ⟨M1, Thin.refl _, 0, _, [], rfl, rfl, by omega, .inl ⟨rfl, rfl⟩, SetOf.nil, by simp, fun _ _ _ h => h, Nat.le_refl _⟩
    · rintro j f M' ⟨i, V8, R8, rfl, rfl, hi, h8, s8, l8, hold, hsz⟩
      have holdM : ∀ b x, b < M.size → M.get b = some x → M'.get b = some x := fun b x hb hx => hold b x (by omega) (hold1 b x hb hx)
      refine CW_seq (CW_seq (CW_region ?_))
      simp only [zZ, reduceIte, Nat.reduceLT, Int.reduceToNat, Int.reduceLE, Int.reduceEq, Int.reduceLT, Nat.reduceEqDiff, Nat.reduceAdd, zMn]
      refine CW_cond (decide ((i : Int) < (A.length : Int))) (by rfl) (fun hq => CW_skip ?_) (fun hq => CW_exit ?_)
      · have hiL := of_decide_eq_true hq
        obtain ⟨x, hX⟩ : ∃ x, A[i]? = some x := ⟨_, List.getElem?_eq_getElem (by omega)⟩
        obtain ⟨gb, rfl, hgb⟩ := (keepA M' holdM).at hX
        unfold HdrsIn at hgb
        have z0 : (0 : Int) ≤ (i : Int) := by omega
        have cx := hdr_cell hX (o := 0) (by decide) false 7 (.int .i64 x.id) rfl rfl
        rw [Nat.add_zero] at cx
        have w9 : IntKind.i64.wrap ((i : Int) + 1) = ((i + 1 : Nat) : Int) := by rw [wri (by omega) (by omega)]; omega
        have e8 := filt_step (p := isMiss B) hX
        simp only [zZ, reduceIte, Nat.reduceLT, Int.reduceToNat, Int.reduceLE, Int.reduceEq, Int.reduceLT, Nat.reduceEqDiff, Nat.reduceAdd]
        refine CW_seq (CW_block (CW_seq (CW_region ?_)))
        simp only [zZ, reduceIte, Nat.reduceLT, Int.reduceToNat, Int.reduceLE, Int.reduceEq, Int.reduceLT, Nat.reduceEqDiff, Nat.reduceAdd, zMn, z0, hiL, and_self, hgb, cx]
        refine ⟨by kernel_rfl, _, rfind_spec x.id K' M' _ B (keepB M' holdM) hlb, ?_⟩
        rintro _ M9 ⟨rfl, e9'⟩; replace e9' := e9'.symm; subst e9'
        simp only [zZ, reduceIte, Nat.reduceLT, Int.reduceToNat, Int.reduceLE, Int.reduceEq, Int.reduceLT, Nat.reduceEqDiff, Nat.reduceAdd, zMn]
        refine CW_cond (decide (findH B x.id < 0)) (by rfl) (fun hm => CW_region ?_) (fun hm => CW_skip ?_)
        · have hm1 : isMiss B x = true := hm
          rw [hm1, if_pos rfl] at e8
          simp only [zZ, reduceIte, Nat.reduceLT, Int.reduceToNat, Int.reduceLE, Int.reduceEq, Int.reduceLT, Nat.reduceEqDiff, Nat.reduceAdd, zMn, z0, hiL, and_self, hgb, cx]
          refine ⟨by kernel_rfl, _, add_spec x.id M1.size M' V8 R8 h8 hsz (by omega) s8.inc, ?_⟩
          rintro U M6 ⟨⟨R', hown6, hi6, hm6, hl6⟩, hold6, hs6⟩
          simp only [zZ, reduceIte, Nat.reduceLT, Int.reduceToNat, Int.reduceLE, Int.reduceEq, Int.reduceLT, Nat.reduceEqDiff, Nat.reduceAdd, zMn]
          refine CW_region ?_
          simp only [zZ, reduceIte, Nat.reduceLT, Int.reduceToNat, Int.reduceLE, Int.reduceEq, Int.reduceLT, Nat.reduceEqDiff, Nat.reduceAdd, zMn, w9]
          refine ⟨[0, 1, 7, 8, 9, 12], ?_⟩
          simp only [zZ, reduceIte, Nat.reduceLT, Int.reduceToNat, Int.reduceLE, Int.reduceEq, Int.reduceLT, Nat.reduceEqDiff, Nat.reduceAdd, keepF]
          exact ⟨M6, Thin.refl _, A.length - (i + 1), ⟨i + 1, U, R', rfl, rfl, by omega, hown6, by rw [e8]; exact s8.snoc hi6 hm6, by omega, fun b y hb hy => hold6 b y (by omega) (hold b y hb hy), by omega⟩, by omega⟩
        · have hm1 : isMiss B x = false := hm
          rw [hm1, if_neg (by decide), List.append_nil] at e8
          simp only [zZ, reduceIte, Nat.reduceLT, Int.reduceToNat, Int.reduceLE, Int.reduceEq, Int.reduceLT, Nat.reduceEqDiff, Nat.reduceAdd]
          refine CW_region ?_
          simp only [zZ, reduceIte, Nat.reduceLT, Int.reduceToNat, Int.reduceLE, Int.reduceEq, Int.reduceLT, Nat.reduceEqDiff, Nat.reduceAdd, zMn, w9]
          refine ⟨[0, 1, 7, 8, 9, 12], ?_⟩
          simp only [zZ, reduceIte, Nat.reduceLT, Int.reduceToNat, Int.reduceLE, Int.reduceEq, Int.reduceLT, Nat.reduceEqDiff, Nat.reduceAdd, keepF]
          exact ⟨M', Thin.refl _, A.length - (i + 1), ⟨i + 1, V8, R8, rfl, rfl, by omega, h8, by rw [e8]; exact s8, by omega, hold, hsz⟩, by omega⟩
      · have hiL := of_decide_eq_false hq
        refine ⟨[7, 8, 9], ?_⟩
        simp only [zZ, reduceIte, Nat.reduceLT, Int.reduceToNat, Int.reduceLE, Int.reduceEq, Int.reduceLT, Nat.reduceEqDiff, Nat.reduceAdd, keepF]
        rw [List.take_of_length_le (by omega)] at s8
        exact ⟨M', Thin.refl _, V8, R8, rfl, h8, s8, hold, hsz⟩
  rintro _ M2 ⟨V8, R8, rfl, h8, s8, hold2, hs2⟩
  have h7' := h7.same (M' := M2) fun b y hb hy => hold2 b y (h7.live hb).2 hy
  have h9' := h9.same (M' := M2) fun b y hb hy => hold2 b y (h9.live hb).2 hy
  refine CW_seq (CW_region ?_)
  simp only [zZ, reduceIte, Nat.reduceLT, Int.reduceToNat, Int.reduceLE, Int.reduceEq, Int.reduceLT, Nat.reduceEqDiff, Nat.reduceAdd, zMn]
  refine CW_ret ?_
  simp only [zZ, reduceIte, Nat.reduceLT, Int.reduceToNat, Int.reduceLE, Int.reduceEq, Int.reduceLT, Nat.reduceEqDiff, Nat.reduceAdd, zMn, mEnd, sAnswer, sAnswer.sRes]
  exact ⟨M2, Thin.refl _, ⟨V7, V8, V9, R7, R8, R9, rfl, s7, s8, s9, IntsOwn.rd h7', IntsOwn.rd h8, IntsOwn.rd h9'⟩, fun b x hb hx => hold2 b x (by omega) (hold1 b x hb hx), by omega⟩
set_option maxRecDepth 100000 in
set_option maxHeartbeats 2000000 in
theorem samei_true (M : Mem) (Va Vb : Value) (R : List Int) (ha : IntsRd M Va R) (hb : IntsRd M Vb R) (hl : R.length ≤ 1000000) :
    Abs.Spec Tryz.prog 15 [Va, Vb] M fun u M' => u = .bool true ∧ M' = M := by
  obtain ⟨a1, c1, rfl, ha⟩ := ha
  obtain ⟨a2, c2, rfl, hb⟩ := hb
  refine Abs.Spec.walkM Tryz.func15 (by rfl) _ Tryz.results15 _ Tryz.ntmps15 (by simp) ?_
  intro hc hx k
  have q0 : (((R.length : Nat) : Int) != ((R.length : Nat) : Int)) = false := bne_self_eq_false _
  refine CW_seq (CW_region ?_)
  simp only [zZ, reduceIte, Nat.reduceLT, Int.reduceToNat, Int.reduceLE, Int.reduceEq, Int.reduceLT, Nat.reduceEqDiff, Nat.reduceAdd, zMn]
  refine CW_seq (CW_seq (CW_region ?_))
  simp only [zZ, reduceIte, Nat.reduceLT, Int.reduceToNat, Int.reduceLE, Int.reduceEq, Int.reduceLT, Nat.reduceEqDiff, Nat.reduceAdd, zMn, q0]
  refine CW_cond false (by rfl) (fun h => by cases h) (fun _ => CW_skip ?_)
  simp only [zZ, reduceIte, Nat.reduceLT, Int.reduceToNat, Int.reduceLE, Int.reduceEq, Int.reduceLT, Nat.reduceEqDiff, Nat.reduceAdd]
  refine CW_seq (CW_seq (CW_region ?_))
  simp only [zZ, reduceIte, Nat.reduceLT, Int.reduceToNat, Int.reduceLE, Int.reduceEq, Int.reduceLT, Nat.reduceEqDiff, Nat.reduceAdd, zMn]
  refine CW_block (MW_loop (fun j f M' => ∃ i : Nat, j = R.length - i ∧ f = [(0, .slice a1 R.length c1), (1, .slice a2 R.length c2), (5, .int .i64 (i : Nat))] ∧ i ≤ R.length ∧ M' = M) R.length ?_ ?_)
  · refine ⟨[0, 1, 5], ?_⟩
    simp only [zZ, reduceIte, Nat.reduceLT, Int.reduceToNat, Int.reduceLE, Int.reduceEq, Int.reduceLT, Nat.reduceEqDiff, Nat.reduceAdd, keepF]
    exact ⟨M, Thin.refl _, 0, rfl, rfl, by omega, rfl⟩
  · rintro j f M' ⟨i, rfl, rfl, hi, e9⟩
    replace e9 := e9.symm; subst e9
    refine CW_seq (CW_seq (CW_region ?_))
    simp only [zZ, reduceIte, Nat.reduceLT, Int.reduceToNat, Int.reduceLE, Int.reduceEq, Int.reduceLT, Nat.reduceEqDiff, Nat.reduceAdd, zMn]
    refine CW_cond (decide ((i : Int) < (R.length : Int))) (by rfl) (fun hq => CW_skip ?_) (fun hq => CW_exit ?_)
    · have hiL := of_decide_eq_true hq
      obtain ⟨x, hX⟩ : ∃ x, R[i]? = some x := ⟨_, List.getElem?_eq_getElem (by omega)⟩
      obtain ⟨g1, ro1, s1, cs1, rfl, hg1, hx1⟩ := ha i x hX
      obtain ⟨g2, ro2, s2, cs2, rfl, hg2, hx2⟩ := hb i x hX
      have z0 : (0 : Int) ≤ (i : Int) := by omega
      have r1 : cellIn i (some (.cells ro1 s1 cs1)) = some (.int .i64 x) := by simp only [cellIn, hx1]
      have r2 : cellIn i (some (.cells ro2 s2 cs2)) = some (.int .i64 x) := by simp only [cellIn, hx2]
      have w9 : IntKind.i64.wrap ((i : Int) + 1) = ((i + 1 : Nat) : Int) := by rw [wri (by omega) (by omega)]; omega
      have e0 : (x != x) = false := bne_self_eq_false _
      simp only [zZ, reduceIte, Nat.reduceLT, Int.reduceToNat, Int.reduceLE, Int.reduceEq, Int.reduceLT, Nat.reduceEqDiff, Nat.reduceAdd]
      refine CW_seq (CW_block (CW_seq (CW_draw hmix 8 (by kernel_rfl) (by kernel_rfl) ?_)))
      simp only [zZ, reduceIte, Nat.reduceLT, Int.reduceToNat, Int.reduceLE, Int.reduceEq, Int.reduceLT, Nat.reduceEqDiff, Nat.reduceAdd, zMn, z0, hiL, and_self, hg1, hg2, r1, r2, e0]
      refine CW_cond false (by rfl) (fun h => by cases h) (fun _ => CW_skip ?_)
      simp only [zZ, reduceIte, Nat.reduceLT, Int.reduceToNat, Int.reduceLE, Int.reduceEq, Int.reduceLT, Nat.reduceEqDiff, Nat.reduceAdd]
      refine CW_region ?_
      simp only [zZ, reduceIte, Nat.reduceLT, Int.reduceToNat, Int.reduceLE, Int.reduceEq, Int.reduceLT, Nat.reduceEqDiff, Nat.reduceAdd, zMn, w9]
      refine ⟨[0, 1, 5], ?_⟩
      simp only [zZ, reduceIte, Nat.reduceLT, Int.reduceToNat, Int.reduceLE, Int.reduceEq, Int.reduceLT, Nat.reduceEqDiff, Nat.reduceAdd, keepF]
      exact ⟨M, Thin.refl _, R.length - (i + 1), ⟨i + 1, rfl, rfl, by omega, rfl⟩, by omega⟩
    · simp only [zZ, reduceIte, Nat.reduceLT, Int.reduceToNat, Int.reduceLE, Int.reduceEq, Int.reduceLT, Nat.reduceEqDiff, Nat.reduceAdd]
      refine CW_seq (CW_region ?_)
      simp only [zZ, reduceIte, Nat.reduceLT, Int.reduceToNat, Int.reduceLE, Int.reduceEq, Int.reduceLT, Nat.reduceEqDiff, Nat.reduceAdd, zMn]
      refine CW_ret ?_
      simp only [zZ, reduceIte, Nat.reduceLT, Int.reduceToNat, Int.reduceLE, Int.reduceEq, Int.reduceLT, Nat.reduceEqDiff, Nat.reduceAdd, zMn, mEnd, sAnswer, sAnswer.sRes]
      exact ⟨M, Thin.refl _, rfl⟩
end Go.Proofs.YtabffcplbjaklaaGreatDoor
namespace Go.Proofs.YtabffcplbjaklaaGreatDoor
open Go.RowKit Abs Stab
theorem Rd.olds {m m' : Mem} {n k : Nat} {v : Value} {cells : List Value} (h : Rd m n v k cells) (hg : ∀ b x, b < m.size → m.get b = some x → m'.get b = some x) : Rd m' n v k cells := by
  obtain ⟨a, cap, h1, h2, h3, h4, h5, h6⟩ := h
  refine ⟨a, cap, h1, h2, h3, h4, h5, fun p hp => ?_⟩
  obtain ⟨b, h7, h8⟩ := h6 p hp
  refine ⟨b, h7, fun hk => ?_⟩
  obtain ⟨ro, h9⟩ := h8 hk
  exact ⟨ro, hg b _ (get_live h9) h9⟩
theorem miss_self (W : List Header) : missL W W = [] := by
  unfold missL
  rw [List.map_eq_nil_iff, List.filter_eq_nil_iff]
  intro h hh
  unfold isMiss
  rcases findH_cases W h.id with ⟨_, h2⟩ | ⟨j, x, h1, _, _⟩
  · exact absurd rfl (h2 h hh)
  · rw [h1]; simp
theorem strict_inj {S : List Header} (hs : Strict S) {x y : Header} (hx : x ∈ S) (hy : y ∈ S) (he : x.id = y.id) : x = y := by
  have key : ∀ (d i : Nat) (x y : Header), S[i]? = some x → S[i + d + 1]? = some y → x.id < y.id := by
    intro d
    induction d with
    | zero => exact fun i x y h1 h2 => hs i x y h1 h2
    | succ d ih =>
      intro i x y h1 h2
      have hlt : i + d + 1 < S.length := by have := (List.getElem?_eq_some_iff.1 h2).1; omega
      have h3 : S[i + d + 1]? = some S[i + d + 1] := List.getElem?_eq_getElem hlt
      have a := ih i x _ h1 h3
      have b := hs (i + d + 1) _ y h3 (by rw [show i + d + 1 + 1 = i + (d + 1) + 1 by omega]; exact h2)
      omega
  obtain ⟨i, hi, ei⟩ := List.getElem_of_mem hx
  obtain ⟨j, hj, ej⟩ := List.getElem_of_mem hy
  rcases Nat.lt_trichotomy i j with h | h | h
  · have := key (j - i - 1) i x y (by rw [List.getElem?_eq_getElem hi, ei]) (by rw [show i + (j - i - 1) + 1 = j by omega, List.getElem?_eq_getElem hj, ej]); omega
  · subst h; rw [← ei, ← ej]
  · have := key (i - j - 1) j y x (by rw [List.getElem?_eq_getElem hj, ej]) (by rw [show j + (i - j - 1) + 1 = i by omega, List.getElem?_eq_getElem hi, ei]); omega
theorem other_self {W S : List Header} (hst : Stable hid W S) (hs : Strict S) : otherL W W = [] := by
  unfold otherL
  rw [List.map_eq_nil_iff, List.filter_eq_nil_iff]
  intro h hh
  unfold isOther isMiss
  rcases findH_cases W h.id with ⟨_, h2⟩ | ⟨j, x, h1, h2, h3⟩
  · exact absurd rfl (h2 h hh)
  · have hxW := List.mem_of_getElem? h2
    obtain rfl := strict_inj hs ((hst.mem hid x).2 hxW) ((hst.mem hid h).2 hh) h3
    rw [h1, Int.toNat_natCast, h2]
    simp only [sameH_self]
    simp
theorem inc_len : ∀ {R X : List Int}, Inc R → (∀ n ∈ R, n ∈ X) → R.length ≤ X.length
  | [], _, _, _ => Nat.zero_le _
  | x :: r, X, h, hs => by
    unfold Inc at h
    rw [List.pairwise_cons] at h
    have hx := hs x (by simp)
    have h1 := List.length_erase_of_mem hx
    have h2 := inc_len (R := r) (X := X.erase x) h.2 fun n hn => (List.mem_erase_of_ne (by have := h.1 n hn; omega)).2 (hs n (by simp [hn]))
    have h3 := List.length_pos_of_mem hx
    rw [List.length_cons]
    omega
theorem set_len {X R : List Int} (h : SetOf X R) : R.length ≤ X.length := inc_len h.inc fun n hn => (h.mem n).1 hn
theorem set_nil {R : List Int} (h : SetOf [] R) : R = [] := by
  rcases R with _ | ⟨x, r⟩
  · rfl
  · exact absurd ((h.mem x).1 (by simp)) (by simp)
set_option maxRecDepth 100000 in
set_option maxHeartbeats 8000000 in
theorem man_holds (M : Mem) (v1 v2 : Value) (L1 L2 : List Header) (hr1 : Rd M 7 v1 L1.length (L1.flatMap Header.cells)) (hr2 : Rd M 7 v2 L2.length (L2.flatMap Header.cells)) :
    Abs.Spec Tryz.prog 5 [v1, v2] M fun u _ => u = .bool true := by
  refine Abs.Spec.walkM Tryz.func5 (by rfl) _ Tryz.results5 _ Tryz.ntmps5 (by simp) ?_
  intro hc hx k
  refine CW_seq (CW_region ?_)
  simp only [zZ, reduceIte, Nat.reduceLT, Int.reduceToNat, Int.reduceLE, Int.reduceEq, Int.reduceLT, Nat.reduceEqDiff, Nat.reduceAdd, zMn]
  refine CW_seq (CW_region ?_)
  simp only [zZ, reduceIte, Nat.reduceLT, Int.reduceToNat, Int.reduceLE, Int.reduceEq, Int.reduceLT, Nat.reduceEqDiff, Nat.reduceAdd, zMn]
  refine ⟨by kernel_rfl, _, few_spec M v1 L1 hr1, ?_⟩
  rintro V M1 ⟨⟨A, ha1, hoka, _⟩, hold1, hs1⟩
  simp only [zZ, reduceIte, Nat.reduceLT, Int.reduceToNat, Int.reduceLE, Int.reduceEq, Int.reduceLT, Nat.reduceEqDiff, Nat.reduceAdd, zMn]
  refine CW_seq (CW_region ?_)
  simp only [zZ, reduceIte, Nat.reduceLT, Int.reduceToNat, Int.reduceLE, Int.reduceEq, Int.reduceLT, Nat.reduceEqDiff, Nat.reduceAdd, zMn]
  refine ⟨by kernel_rfl, _, few_spec M1 v2 L2 (Rd.olds hr2 hold1), ?_⟩
  rintro W M2 ⟨⟨B, hb2, hokb, _⟩, hold2, hs2⟩
  simp only [zZ, reduceIte, Nat.reduceLT, Int.reduceToNat, Int.reduceLE, Int.reduceEq, Int.reduceLT, Nat.reduceEqDiff, Nat.reduceAdd, zMn]
  have hla : A.length ≤ 1000 := by have := hoka.1; omega
  have hlb : B.length ≤ 1000 := by have := hokb.1; omega
  have ha2 : HdrsOwn M.size M2 V A := ha1.same fun b x hb hx => hold2 b x (ha1.live hb).2 hx
  refine CW_seq (CW_region ?_)
  simp only [zZ, reduceIte, Nat.reduceLT, Int.reduceToNat, Int.reduceLE, Int.reduceEq, Int.reduceLT, Nat.reduceEqDiff, Nat.reduceAdd, zMn]
  refine ⟨by kernel_rfl, _, hold_spec _ _ M2 V W A B ha2 hb2 hla hlb, ?_⟩
  rintro u3 M3 ⟨⟨P1, P2, P3, R1, R2, R3, rfl, t1, t2, t3, d1, d2, d3⟩, hold3, hs3⟩
  simp only [zZ, reduceIte, Nat.reduceLT, Int.reduceToNat, Int.reduceLE, Int.reduceEq, Int.reduceLT, Nat.reduceEqDiff, Nat.reduceAdd, zMn]
  have ha3 : HdrsOwn M.size M3 V A := ha2.same fun b x hb hx => hold3 b x (ha2.live hb).2 hx
  have hb3 : HdrsOwn M1.size M3 W B := hb2.same fun b x hb hx => hold3 b x (hb2.live hb).2 hx
  refine CW_seq (CW_region ?_)
  simp only [zZ, reduceIte, Nat.reduceLT, Int.reduceToNat, Int.reduceLE, Int.reduceEq, Int.reduceLT, Nat.reduceEqDiff, Nat.reduceAdd, zMn]
  refine ⟨by kernel_rfl, _, rhold_spec _ _ M3 V W A B ha3 hb3 hla hlb, ?_⟩
  rintro u4 M4 ⟨⟨Q1, Q2, Q3, S1, S2, S3, rfl, u1, u2, u3, e1, e2, e3⟩, hold4, hs4⟩
  simp only [zZ, reduceIte, Nat.reduceLT, Int.reduceToNat, Int.reduceLE, Int.reduceEq, Int.reduceLT, Nat.reduceEqDiff, Nat.reduceAdd, zMn]
  obtain rfl := t1.unique u1
  obtain rfl := t2.unique u2
  obtain rfl := t3.unique u3
  have live3 : ∀ {P : Value} {R : List Int}, IntsRd M3 P R → IntsRd M4 P R := fun {P R} h => by
    obtain ⟨a, c, rfl, h⟩ := h
    refine ⟨a, c, rfl, fun i x hx => ?_⟩
    obtain ⟨g, ro, s, cs, h1, h2, h3⟩ := h i x hx
    exact ⟨g, ro, s, cs, h1, hold4 g _ (get_live h2) h2, h3⟩
  have nm : ∀ (X Y : List Header) (p : Header → Bool), ((Y.filter p).map Header.id).length ≤ Y.length := fun X Y p => by
    rw [List.length_map]; exact List.length_filter_le _ _
  have l1 : R1.length ≤ 1000000 := by have := set_len t1; have := nm A B (isMiss A); unfold missL at *; omega
  have l2 : R2.length ≤ 1000000 := by have := set_len t2; have := nm A A (isMiss B); unfold missL at *; omega
  have l3 : R3.length ≤ 1000000 := by have := set_len t3; have := nm A B (isOther A); unfold otherL at *; omega
  refine CW_seq (CW_seq (CW_region ?_))
  simp only [zZ, reduceIte, Nat.reduceLT, Int.reduceToNat, Int.reduceLE, Int.reduceEq, Int.reduceLT, Nat.reduceEqDiff, Nat.reduceAdd, zMn]
  refine ⟨by kernel_rfl, _, samei_true M4 P1 Q1 R1 (live3 d1) e1 l1, ?_⟩
  rintro _ M9 ⟨rfl, e9⟩; replace e9 := e9.symm; subst e9
  simp only [zZ, reduceIte, Nat.reduceLT, Int.reduceToNat, Int.reduceLE, Int.reduceEq, Int.reduceLT, Nat.reduceEqDiff, Nat.reduceAdd, zMn]
  refine ⟨by kernel_rfl, _, samei_true M4 P2 Q2 R2 (live3 d2) e2 l2, ?_⟩
  rintro _ M9 ⟨rfl, e9⟩; replace e9 := e9.symm; subst e9
  simp only [zZ, reduceIte, Nat.reduceLT, Int.reduceToNat, Int.reduceLE, Int.reduceEq, Int.reduceLT, Nat.reduceEqDiff, Nat.reduceAdd, zMn]
  refine ⟨by kernel_rfl, _, samei_true M4 P3 Q3 R3 (live3 d3) e3 l3, ?_⟩
  rintro _ M9 ⟨rfl, e9⟩; replace e9 := e9.symm; subst e9
  simp only [zZ, reduceIte, Nat.reduceLT, Int.reduceToNat, Int.reduceLE, Int.reduceEq, Int.reduceLT, Nat.reduceEqDiff, Nat.reduceAdd, zMn]
  refine CW_cond false (by rfl) (fun h => by cases h) (fun _ => CW_skip ?_)
  simp only [zZ, reduceIte, Nat.reduceLT, Int.reduceToNat, Int.reduceLE, Int.reduceEq, Int.reduceLT, Nat.reduceEqDiff, Nat.reduceAdd]
  have hb4 : HdrsOwn M1.size M4 W B := hb3.same fun b x hb hx => hold4 b x (hb3.live hb).2 hx
  refine CW_seq (CW_region ?_)
  simp only [zZ, reduceIte, Nat.reduceLT, Int.reduceToNat, Int.reduceLE, Int.reduceEq, Int.reduceLT, Nat.reduceEqDiff, Nat.reduceAdd, zMn]
  refine ⟨by kernel_rfl, _, hold_spec _ _ M4 W W B B hb4 hb4 hlb hlb, ?_⟩
  rintro u5 M5 ⟨⟨P1, P2, P3, R1, R2, R3, rfl, t1, t2, t3, d1, d2, d3⟩, hold5, hs5⟩
  rw [miss_self] at t1 t2
  obtain rfl := set_nil t1
  obtain rfl := set_nil t2
  obtain ⟨p1, k1, rfl, _⟩ := d1
  obtain ⟨p2, k2, rfl, _⟩ := d2
  obtain ⟨p3, k3, rfl, _⟩ := d3
  have q00 : (((0 : Nat) : Int) != 0) = false := rfl
  simp only [zZ, reduceIte, Nat.reduceLT, Int.reduceToNat, Int.reduceLE, Int.reduceEq, Int.reduceLT, Nat.reduceEqDiff, Nat.reduceAdd, zMn, List.length_nil]
  refine CW_seq (CW_seq (CW_region ?_))
  simp only [zZ, reduceIte, Nat.reduceLT, Int.reduceToNat, Int.reduceLE, Int.reduceEq, Int.reduceLT, Nat.reduceEqDiff, Nat.reduceAdd, zMn, q00]
  refine CW_cond false (by rfl) (fun h => by cases h) (fun _ => CW_skip ?_)
  simp only [zZ, reduceIte, Nat.reduceLT, Int.reduceToNat, Int.reduceLE, Int.reduceEq, Int.reduceLT, Nat.reduceEqDiff, Nat.reduceAdd]
  have hb5 : HdrsOwn M1.size M5 W B := hb4.same fun b x hb hx => hold5 b x (hb4.live hb).2 hx
  refine CW_seq (CW_region ?_)
  simp only [zZ, reduceIte, Nat.reduceLT, Int.reduceToNat, Int.reduceLE, Int.reduceEq, Int.reduceLT, Nat.reduceEqDiff, Nat.reduceAdd, zMn]
  refine ⟨by kernel_rfl, _, rsort_spec M1.size M5 W B hb5 hlb, ?_⟩
  rintro V6 M6 ⟨hold6, hs6, S, hst, hown6⟩
  obtain ⟨a6, c6, hV6⟩ := hown6.len
  subst hV6
  have hSl : S.length = B.length := hst.len
  simp only [zZ, reduceIte, Nat.reduceLT, Int.reduceToNat, Int.reduceLE, Int.reduceEq, Int.reduceLT, Nat.reduceEqDiff, Nat.reduceAdd, zMn]
  refine MW_mid (fun f M' => ∃ f0, f = (13, .slice p3 R3.length k3) :: f0 ∧ M' = M6 ∧ Strict S) ?_ ?_
  · refine CW_seq (CW_region ?_)
    simp only [zZ, reduceIte, Nat.reduceLT, Int.reduceToNat, Int.reduceLE, Int.reduceEq, Int.reduceLT, Nat.reduceEqDiff, Nat.reduceAdd, zMn]
    refine CW_block (MW_loop (fun j f M' => ∃ i : Nat, j = S.length - i ∧ f = [(13, .slice p3 R3.length k3), (14, .slice a6 S.length c6), (15, .int .i64 (i : Nat))] ∧ 1 ≤ i ∧ i ≤ S.length + 1 ∧ (∀ q x y, q + 1 < i → S[q]? = some x → S[q + 1]? = some y → x.id ≠ y.id) ∧ M' = M6) (S.length - 1) ?_ ?_)
    · refine ⟨[13, 14, 15], ?_⟩
      simp only [zZ, reduceIte, Nat.reduceLT, Int.reduceToNat, Int.reduceLE, Int.reduceEq, Int.reduceLT, Nat.reduceEqDiff, Nat.reduceAdd, keepF]
      exact ⟨M6, Thin.refl _, 1, rfl, rfl, by omega, by omega, fun q x y hq => by omega, rfl⟩
    · rintro j f M' ⟨i, rfl, rfl, hi1, hi2, hne, e9⟩
      replace e9 := e9.symm; subst e9
      refine CW_seq (CW_seq (CW_region ?_))
      simp only [zZ, reduceIte, Nat.reduceLT, Int.reduceToNat, Int.reduceLE, Int.reduceEq, Int.reduceLT, Nat.reduceEqDiff, Nat.reduceAdd, zMn]
      refine CW_cond (decide ((i : Int) < (S.length : Int))) (by rfl) (fun hq => CW_skip ?_) (fun hq => CW_exit ?_)
      · have hiL := of_decide_eq_true hq
        obtain ⟨x, hX⟩ : ∃ x, S[i]? = some x := ⟨_, List.getElem?_eq_getElem (by omega)⟩
        obtain ⟨y, hY⟩ : ∃ y, S[i - 1]? = some y := ⟨_, List.getElem?_eq_getElem (by omega)⟩
        obtain ⟨g, rfl, hg⟩ := hown6.at hX
        unfold HdrsIn at hg
        have z0 : (0 : Int) ≤ (i : Int) := by omega
        have cx := hdr_cell hX (o := 0) (by decide) false 7 (.int .i64 x.id) rfl rfl
        rw [Nat.add_zero] at cx
        have cy := hdr_cell hY (o := 0) (by decide) false 7 (.int .i64 y.id) rfl rfl
        rw [Nat.add_zero] at cy
        have w1 : IntKind.i64.wrap ((i : Int) - 1) = ((i - 1 : Nat) : Int) := by rw [wri (by omega) (by omega)]; omega
        have w9 : IntKind.i64.wrap ((i : Int) + 1) = ((i + 1 : Nat) : Int) := by rw [wri (by omega) (by omega)]; omega
        have z1 : (0 : Int) ≤ ((i - 1 : Nat) : Int) := by omega
        have z2 : ((i - 1 : Nat) : Int) < (S.length : Int) := by omega
        simp only [zZ, reduceIte, Nat.reduceLT, Int.reduceToNat, Int.reduceLE, Int.reduceEq, Int.reduceLT, Nat.reduceEqDiff, Nat.reduceAdd]
        refine CW_seq (CW_block (CW_seq (CW_draw hmix 11 (by kernel_rfl) (by kernel_rfl) ?_)))
        simp only [zZ, reduceIte, Nat.reduceLT, Int.reduceToNat, Int.reduceLE, Int.reduceEq, Int.reduceLT, Nat.reduceEqDiff, Nat.reduceAdd, zMn, z0, hiL, z1, z2, w1, and_self, hg, cx, cy]
        refine CW_cond (y.id == x.id) (by rfl) (fun he => CW_seq (CW_region ?_)) (fun he => CW_skip ?_)
        · simp only [zZ, reduceIte, Nat.reduceLT, Int.reduceToNat, Int.reduceLE, Int.reduceEq, Int.reduceLT, Nat.reduceEqDiff, Nat.reduceAdd, zMn]
          refine ⟨by kernel_rfl, _, awake46_spec _, ?_⟩
          rintro _ M8 rfl
          simp only [zZ, reduceIte, Nat.reduceLT, Int.reduceToNat, Int.reduceLE, Int.reduceEq, Int.reduceLT, Nat.reduceEqDiff, Nat.reduceAdd, zMn]
          refine CW_ret ?_
          simp only [zZ, reduceIte, Nat.reduceLT, Int.reduceToNat, Int.reduceLE, Int.reduceEq, Int.reduceLT, Nat.reduceEqDiff, Nat.reduceAdd, zMn, mEnd, sAnswer, sAnswer.sRes]
          exact ⟨M8, Thin.refl _⟩
        · have he : y.id ≠ x.id := by simpa using he
          simp only [zZ, reduceIte, Nat.reduceLT, Int.reduceToNat, Int.reduceLE, Int.reduceEq, Int.reduceLT, Nat.reduceEqDiff, Nat.reduceAdd]
          refine CW_region ?_
          simp only [zZ, reduceIte, Nat.reduceLT, Int.reduceToNat, Int.reduceLE, Int.reduceEq, Int.reduceLT, Nat.reduceEqDiff, Nat.reduceAdd, zMn, w9]
          refine ⟨[13, 14, 15], ?_⟩
          simp only [zZ, reduceIte, Nat.reduceLT, Int.reduceToNat, Int.reduceLE, Int.reduceEq, Int.reduceLT, Nat.reduceEqDiff, Nat.reduceAdd, keepF]
          refine ⟨M6, Thin.refl _, S.length - (i + 1), ⟨i + 1, rfl, rfl, by omega, by omega, fun q x' y' hq hx' hy' => ?_, rfl⟩, by omega⟩
          by_cases e : q + 1 = i
          · obtain rfl : q = i - 1 := by omega
            rw [hY] at hx'; cases hx'
            rw [show i - 1 + 1 = i by omega, hX] at hy'; cases hy'
            exact he
          · exact hne q x' y' (by omega) hx' hy'
      · have hiL := of_decide_eq_false hq
        refine ⟨[13], ?_⟩
        simp only [zZ, reduceIte, Nat.reduceLT, Int.reduceToNat, Int.reduceLE, Int.reduceEq, Int.reduceLT, Nat.reduceEqDiff, Nat.reduceAdd, keepF]
        refine ⟨M6, Thin.refl _, [], rfl, rfl, fun q x y hx hy => ?_⟩
        have h1 := hne q x y (by have := (List.getElem?_eq_some_iff.1 hy).1; omega) hx hy
        have h2 := hst.rising
        unfold Rising at h2
        rw [List.pairwise_iff_getElem] at h2
        obtain ⟨ha, rfl⟩ := List.getElem?_eq_some_iff.1 hx
        obtain ⟨hb, rfl⟩ := List.getElem?_eq_some_iff.1 hy
        have := h2 q (q + 1) ha hb (by omega)
        unfold hid at this
        omega
  rintro _ M7 ⟨f0, rfl, rfl, hstr⟩
  rw [other_self hst hstr] at t3
  obtain rfl := set_nil t3
  have q0e : (((0 : Nat) : Int) == 0) = true := rfl
  refine CW_seq (CW_region ?_)
  simp only [zZ, reduceIte, Nat.reduceLT, Int.reduceToNat, Int.reduceLE, Int.reduceEq, Int.reduceLT, Nat.reduceEqDiff, Nat.reduceAdd, zMn, List.length_nil, q0e]
  refine ⟨by kernel_rfl, _, awake46_spec _, ?_⟩
  rintro _ M8 rfl
  simp only [zZ, reduceIte, Nat.reduceLT, Int.reduceToNat, Int.reduceLE, Int.reduceEq, Int.reduceLT, Nat.reduceEqDiff, Nat.reduceAdd, zMn]
  refine CW_ret ?_
  simp only [zZ, reduceIte, Nat.reduceLT, Int.reduceToNat, Int.reduceLE, Int.reduceEq, Int.reduceLT, Nat.reduceEqDiff, Nat.reduceAdd, zMn, mEnd, sAnswer, sAnswer.sRes]
  exact ⟨M8, Thin.refl _⟩
end Go.Proofs.YtabffcplbjaklaaGreatDoor
