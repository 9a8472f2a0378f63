/-
  The library's contracts for texts that are cut, and joined, for the abstract machine.
  An archive's bytes: the program's walks, and the document's.
  Bytes read as an archive: the program's walk, and the document's.
  An archive's bytes: the document's Put and Take.
  Headers that came in, read off the abstract memory.
  An archive that came in.
  Drawn regions in which several operations write memory, one behind the other; what stands between, and what the first of them does not wait for, looks at none.
  A block whose place is known ahead: memories without it, and with it.
  Drawn regions in which a block is made beside a call that it does not wait for, nor the call for it.
-/
import Derived.Test.YtkifimkcmfglmaaGreatDoorArcb12
import Derived.Lib.SmallJoins
import Derived.Test.YtkifimkcmfglmaaGreatDoorArcb13
import Derived.Test.YtkifimkcmfglmaaGreatDoorArcb11
import Derived.Test.YtkifimkcmfglmaaGreatDoorArcb03
import Derived.Test.YtkifimkcmfglmaaGreatDoorArcb09
set_option linter.all false
namespace Go.Proofs.YtkifimkcmfglmaaGreatDoor.Abs
open Go Go.RowKit
theorem join_spec (g : Nat) (ro : Bool) (xs : List ByteArray) (cap : Nat) (sep : ByteArray) (m : Mem) (hg : m.get g = some (.cells ro 1 (xs.map .string))) (h0 : xs ≠ []) (hN : xs.length ≤ 140737488355328)
    (hlen : (Lib.join (xs.map (·.data.toList)) sep.data.toList).length ≤ 140737488355328) :
    Spec Tryz.prog 16 [.slice (some ⟨g, 0, none⟩) xs.length cap, .string sep] m fun u M => u = .string (str (Lib.join (xs.map (·.data.toList)) sep.data.toList)) ∧ M = m :=
  Spec.of_below rfl fun ι w ys hy hr => by
    obtain ⟨a', b', rfl, ha, hb⟩ := vrels_two hy
    cases hb
    have hpos : 0 < xs.length := List.length_pos_iff.2 h0
    generalize hk : xs.length = k at ha
    cases ha with
    | empty _ _ p hlt => omega
    | slice _ _ _ _ cap' hlt hl hcc =>
      obtain ⟨C, e, fz, g1, g2, g3, g4, g5, g6⟩ := hr.at' _ _ _ _ hg
      rw [← hk]
      refine (Tryz.strings_Join (ι g).blk ((ι g).base + 0) cap' xs sep w (fun j x hx => ?_) (lt_of_heap g1) hN (by rcases hcc with hcc | hcc <;> omega) hlen).mono ?_
      · obtain ⟨_, v', h8, h9⟩ := g5 j (.string x) (by rw [List.getElem?_map, hx]; rfl)
        cases h9
        rw [cell_of_block g1, ← h8]
        congr 1
      · rintro e w' ⟨rfl, hb⟩
        exact ⟨rfl, hb⟩
end Go.Proofs.YtkifimkcmfglmaaGreatDoor.Abs
namespace Go.Proofs.YtkifimkcmfglmaaGreatDoor
open Go.RowKit Abs
abbrev BlR (M : Mem) (V : Value) (xs : List ByteArray) : Prop := Rd M 1 V xs.length (xs.map .string)
theorem BlR.same {M M' : Mem} {V : Value} {xs : List ByteArray} (h : BlR M V xs) (hs : ∀ b x, M.get b = some x → M'.get b = some x) : BlR M' V xs := by
  obtain ⟨a, c, h1, h2, h3, h4, h5, h6⟩ := h
  refine ⟨a, c, h1, h2, h3, h4, h5, fun p hp => ?_⟩
  obtain ⟨b, h7, h8⟩ := h6 p hp
  refine ⟨b, h7, fun hk => ?_⟩
  obtain ⟨ro, h9⟩ := h8 hk
  exact ⟨ro, hs _ _ h9⟩
theorem BlR.cell {M : Mem} {a : Option Addr} {c : Nat} {xs : List ByteArray} (h : BlR M (.slice a xs.length c) xs) {i : Nat} {x : ByteArray} (hx : xs[i]? = some x) :
    ∃ g ro, a = some ⟨g, 0, none⟩ ∧ M.get g = some (.cells ro 1 (xs.map .string)) ∧ (xs.map Value.string)[i]? = some (.string x) := by
  have hi : i < xs.length := by rcases Nat.lt_or_ge i xs.length with h | h; exact h; rw [List.getElem?_eq_none h] at hx; cases hx
  obtain ⟨b, ro, h1, h2⟩ := Rd.at h (by omega)
  exact ⟨b, ro, h1, h2, by rw [List.getElem?_map, hx]; rfl⟩
theorem BlR.len {M : Mem} {V : Value} {xs : List ByteArray} (h : BlR M V xs) : ∃ a c, V = .slice a xs.length c := by
  obtain ⟨a, c, h1, _⟩ := h
  exact ⟨a, c, h1⟩
theorem bx_arch (h : Header) (a : Option Addr) (n c : Nat) : nBox Tryz.prog 26 (.agg (archC h (.slice a n c))) = some (.cells false (aStride Tryz.prog 26) (archC h (.slice a n c)).toList) := bx_Arc _ rfl
theorem take_size {xs : List ByteArray} {i : Nat} {x : ByteArray} (h : ∀ s ∈ xs.take i, s.size = 224) (hx : xs[i]? = some x) (hp : x.size = 224) : ∀ s ∈ xs.take (i + 1), s.size = 224 := by
  intro s hs
  rw [List.take_add_one, hx, List.mem_append] at hs
  rcases hs with hs | hs
  · exact h s hs
  · have : s = x := by simpa using hs
    rw [this]; exact hp
theorem sizes_all {xs : List ByteArray} (h : ∀ s ∈ xs, s.size = 224) : sizesB xs = true := List.all_eq_true.2 fun s hs => decide_eq_true (h s hs)
theorem sizes_not {xs : List ByteArray} {x : ByteArray} (hx : x ∈ xs) (h : x.size ≠ 224) : sizesB xs = false := by
  cases hb : sizesB xs with
  | false => rfl
  | true => exact absurd (of_decide_eq_true (List.all_eq_true.1 hb x hx)) h
set_option maxRecDepth 100000 in
set_option maxHeartbeats 8000000 in
theorem ashape_spec (h : Header) (xs : List ByteArray) (hl : xs.length ≤ 1000) (M : Mem) (V : Value) (hr : BlR M V xs) :
    Abs.Spec Tryz.prog 15 [.agg (archC h V)] M fun u M' => u = .int .i64 (if shapeB h xs = true then 0 else 2) ∧ More M M' := by
  obtain ⟨p, c, rfl⟩ := hr.len
  have bx := bx_arch
  generalize aStride Tryz.prog 26 = s3 at bx
  have k7 : ∀ (s : Nat) (h : Header) V, cellIn 7 (some (.cells false s (archC h V).toList)) = some V := fun _ _ _ => rfl
  have k2 : ∀ (s : Nat) (h : Header) V, cellIn 2 (some (.cells false s (archC h V).toList)) = some (.int .i64 h.n) := fun _ _ _ => rfl
  obtain ⟨M1, hM1⟩ : ∃ M1, M1 = M.push (.cells false s3 (archC h (.slice p xs.length c)).toList) := ⟨_, rfl⟩
  have mo : More M M1 := by rw [hM1]; exact More.push _ _
  have g1 : M1.get M.size = some (.cells false s3 (archC h (.slice p xs.length c)).toList) := by rw [hM1, Mem.get_push_new]
  have h1 := hr.same mo.get
  have bad : shapeB h xs = false → (Value.int .i64 2 = .int .i64 (if shapeB h xs = true then 0 else 2)) := fun e => by rw [e]; rfl
  refine Abs.Spec.walkM Tryz.func15 (by rfl) _ Tryz.results15 _ Tryz.ntmps15 (by simp) ?_
  intro _ _ _
  refine CW_seq (CW_region ?_)
  simp only [zZ, reduceIte, Nat.reduceLT, Int.reduceToNat, Int.reduceLE, Int.reduceEq, Int.reduceLT, Nat.reduceEqDiff, Nat.reduceAdd, zDk, bx]
  rw [← hM1]
  by_cases hn : (xs.length : Int) = h.n
  · have q1 : (((xs.length : Nat) : Int) != h.n) = false := by rw [hn]; simp
    refine CW_seq (CW_seq (CW_region ?_))
    simp only [zZ, reduceIte, Nat.reduceLT, Int.reduceToNat, Int.reduceLE, Int.reduceEq, Int.reduceLT, Nat.reduceEqDiff, Nat.reduceAdd, zDk, g1, k7, k2, q1]
    refine CW_cond false (by rfl) (fun h => by cases h) (fun _ => CW_skip ?_)
    simp only [zZ, reduceIte, Nat.reduceLT, Int.reduceToNat, Int.reduceLE, Int.reduceEq, Int.reduceLT, Nat.reduceEqDiff, Nat.reduceAdd, zDk]
    refine MW_mid (fun f M' => f = [] ∧ M' = M1 ∧ sizesB xs = true) ?_ ?_
    · refine CW_seq (CW_region ?_)
      simp only [zZ, reduceIte, Nat.reduceLT, Int.reduceToNat, Int.reduceLE, Int.reduceEq, Int.reduceLT, Nat.reduceEqDiff, Nat.reduceAdd, zDk, g1, k7]
      refine CW_block (MW_loop (fun j f M' => ∃ i : Nat, j = xs.length - i ∧ f = [(13, .slice p xs.length c), (14, .int .i64 (xs.length : Nat)), (15, .int .i64 (i : Nat))] ∧ i ≤ xs.length ∧ M' = M1 ∧ ∀ s ∈ xs.take i, s.size = 224) xs.length ?_ ?_)
      · refine ⟨[13, 14, 15], ?_⟩
        simp only [zZ, reduceIte, Nat.reduceLT, Int.reduceToNat, Int.reduceLE, Int.reduceEq, Int.reduceLT, Nat.reduceEqDiff, Nat.reduceAdd, keepF]
        exact ⟨M1, Thin.refl _, 0, rfl, rfl, by omega, rfl, by simp⟩
      · rintro j f M' ⟨i, rfl, rfl, hi, rfl, hall⟩
        refine CW_seq (CW_region ?_)
        simp only [zZ, reduceIte, Nat.reduceLT, Int.reduceToNat, Int.reduceLE, Int.reduceEq, Int.reduceLT, Nat.reduceEqDiff, Nat.reduceAdd, zDk]
        refine CW_seq (CW_cond (decide ((i : Int) < (xs.length : Int))) (by rfl) (fun hq => CW_skip ?_) (fun hq => CW_exit ?_))
        · have hq' := of_decide_eq_true hq
          obtain ⟨x, hx⟩ : ∃ x, xs[i]? = some x := ⟨_, List.getElem?_eq_getElem (by omega)⟩
          obtain ⟨g, ro, rfl, g2, c2⟩ := h1.cell hx
          have z0 : (0 : Int) ≤ (i : Int) := by omega
          have w1 : IntKind.i64.wrap ((i : Int) + 1) = ((i + 1 : Nat) : Int) := by rw [wri (by omega) (by omega)]; omega
          simp only [zZ, reduceIte, Nat.reduceLT, Int.reduceToNat, Int.reduceLE, Int.reduceEq, Int.reduceLT, Nat.reduceEqDiff, Nat.reduceAdd, zDk]
          refine CW_seq (CW_block (CW_seq (CW_region ?_)))
          simp only [zZ, reduceIte, Nat.reduceLT, Int.reduceToNat, Int.reduceLE, Int.reduceEq, Int.reduceLT, Nat.reduceEqDiff, Nat.reduceAdd, zDk, z0, hq', and_self, g2, Int.toNat_natCast, c2]
          by_cases hb : x.size = 224
          · have q2 : (((bsize x : Nat) : Int) != 224) = false := by
              have : bsize x = 224 := hb
              rw [this]; rfl
            refine CW_seq (CW_region ?_)
            simp only [zZ, reduceIte, Nat.reduceLT, Int.reduceToNat, Int.reduceLE, Int.reduceEq, Int.reduceLT, Nat.reduceEqDiff, Nat.reduceAdd, zDk, q2]
            refine CW_cond false (by rfl) (fun h => by cases h) (fun _ => CW_skip ?_)
            simp only [zZ, reduceIte, Nat.reduceLT, Int.reduceToNat, Int.reduceLE, Int.reduceEq, Int.reduceLT, Nat.reduceEqDiff, Nat.reduceAdd, zDk]
            refine CW_region ?_
            simp only [zZ, reduceIte, Nat.reduceLT, Int.reduceToNat, Int.reduceLE, Int.reduceEq, Int.reduceLT, Nat.reduceEqDiff, Nat.reduceAdd, zDk, w1]
            refine ⟨[13, 14, 15], ?_⟩
            simp only [zZ, reduceIte, Nat.reduceLT, Int.reduceToNat, Int.reduceLE, Int.reduceEq, Int.reduceLT, Nat.reduceEqDiff, Nat.reduceAdd, keepF]
            exact ⟨_, Thin.refl _, xs.length - (i + 1), ⟨i + 1, rfl, rfl, by omega, rfl, take_size hall hx hb⟩, by omega⟩
          · have q2 : (((bsize x : Nat) : Int) != 224) = true := by
              have : bsize x ≠ 224 := hb
              simp; omega
            refine CW_seq (CW_region ?_)
            simp only [zZ, reduceIte, Nat.reduceLT, Int.reduceToNat, Int.reduceLE, Int.reduceEq, Int.reduceLT, Nat.reduceEqDiff, Nat.reduceAdd, zDk, q2]
            refine CW_cond true (by rfl) (fun _ => CW_seq (CW_region ?_)) (fun h => by cases h)
            simp only [zZ, reduceIte, Nat.reduceLT, Int.reduceToNat, Int.reduceLE, Int.reduceEq, Int.reduceLT, Nat.reduceEqDiff, Nat.reduceAdd, zDk]
            refine CW_ret ?_
            simp only [zZ, reduceIte, Nat.reduceLT, Int.reduceToNat, Int.reduceLE, Int.reduceEq, Int.reduceLT, Nat.reduceEqDiff, Nat.reduceAdd, zDk, mEnd, sAnswer, sAnswer.sRes]
            exact ⟨_, Thin.refl _, bad (by unfold shapeB; rw [sizes_not (List.mem_of_getElem? hx) hb, Bool.and_false]), mo⟩
        · have hq' := of_decide_eq_false hq
          obtain rfl : i = xs.length := by omega
          rw [List.take_length] at hall
          simp only [zZ, reduceIte, Nat.reduceLT, Int.reduceToNat, Int.reduceLE, Int.reduceEq, Int.reduceLT, Nat.reduceEqDiff, Nat.reduceAdd, zDk]
          refine ⟨[], ?_⟩
          simp only [zZ, reduceIte, Nat.reduceLT, Int.reduceToNat, Int.reduceLE, Int.reduceEq, Int.reduceLT, Nat.reduceEqDiff, Nat.reduceAdd, keepF]
          exact ⟨_, Thin.refl _, rfl, sizes_all hall⟩
    · rintro f M2 ⟨rfl, rfl, hsz⟩
      refine CW_seq (CW_region ?_)
      simp only [zZ, reduceIte, Nat.reduceLT, Int.reduceToNat, Int.reduceLE, Int.reduceEq, Int.reduceLT, Nat.reduceEqDiff, Nat.reduceAdd, zDk]
      refine CW_ret ?_
      simp only [zZ, reduceIte, Nat.reduceLT, Int.reduceToNat, Int.reduceLE, Int.reduceEq, Int.reduceLT, Nat.reduceEqDiff, Nat.reduceAdd, zDk, mEnd, sAnswer, sAnswer.sRes]
      exact ⟨_, Thin.refl _, by rw [show shapeB h xs = true by unfold shapeB; rw [hsz, decide_eq_true hn]; rfl]; rfl, mo⟩
  · have q1 : (((xs.length : Nat) : Int) != h.n) = true := by simp; exact hn
    refine CW_seq (CW_seq (CW_region ?_))
    simp only [zZ, reduceIte, Nat.reduceLT, Int.reduceToNat, Int.reduceLE, Int.reduceEq, Int.reduceLT, Nat.reduceEqDiff, Nat.reduceAdd, zDk, g1, k7, k2, q1]
    refine CW_cond true (by rfl) (fun _ => CW_seq (CW_region ?_)) (fun h => by cases h)
    simp only [zZ, reduceIte, Nat.reduceLT, Int.reduceToNat, Int.reduceLE, Int.reduceEq, Int.reduceLT, Nat.reduceEqDiff, Nat.reduceAdd, zDk]
    refine CW_ret ?_
    simp only [zZ, reduceIte, Nat.reduceLT, Int.reduceToNat, Int.reduceLE, Int.reduceEq, Int.reduceLT, Nat.reduceEqDiff, Nat.reduceAdd, zDk, mEnd, sAnswer, sAnswer.sRes]
    exact ⟨_, Thin.refl _, bad (by unfold shapeB; rw [decide_eq_false hn]; rfl), mo⟩
set_option maxRecDepth 100000 in
set_option maxHeartbeats 8000000 in
theorem rshape_spec (h : Header) (xs : List ByteArray) (hl : xs.length ≤ 1000) (M : Mem) (V : Value) (hr : BlR M V xs) :
    Abs.Spec Tryz.prog 18 [.agg (archC h V)] M fun u M' => u = .bool (shapeB h xs) ∧ More M M' := by
  obtain ⟨p, c, rfl⟩ := hr.len
  have bx := bx_arch
  generalize aStride Tryz.prog 26 = s3 at bx
  have k7 : ∀ (s : Nat) (h : Header) V, cellIn 7 (some (.cells false s (archC h V).toList)) = some V := fun _ _ _ => rfl
  have k2 : ∀ (s : Nat) (h : Header) V, cellIn 2 (some (.cells false s (archC h V).toList)) = some (.int .i64 h.n) := fun _ _ _ => rfl
  obtain ⟨M1, hM1⟩ : ∃ M1, M1 = M.push (.cells false s3 (archC h (.slice p xs.length c)).toList) := ⟨_, rfl⟩
  have mo : More M M1 := by rw [hM1]; exact More.push _ _
  have g1 : M1.get M.size = some (.cells false s3 (archC h (.slice p xs.length c)).toList) := by rw [hM1, Mem.get_push_new]
  obtain ⟨b1, hb1⟩ : ∃ b, b = M.size := ⟨_, rfl⟩
  have h1 := hr.same mo.get
  refine Abs.Spec.walkM Tryz.func18 (by rfl) _ Tryz.results18 _ Tryz.ntmps18 (by simp) ?_
  intro _ _ _
  refine CW_seq (CW_region ?_)
  simp only [zZ, reduceIte, Nat.reduceLT, Int.reduceToNat, Int.reduceLE, Int.reduceEq, Int.reduceLT, Nat.reduceEqDiff, Nat.reduceAdd, zDk, bx]
  rw [← hM1]
  rw [← hb1] at g1 ⊢
  refine MW_mid (fun f M' => f = [(1, .pointer (some ⟨b1, 0, none⟩))] ∧ M' = M1 ∧ sizesB xs = true) ?_ ?_
  · refine CW_seq (CW_region ?_)
    simp only [zZ, reduceIte, Nat.reduceLT, Int.reduceToNat, Int.reduceLE, Int.reduceEq, Int.reduceLT, Nat.reduceEqDiff, Nat.reduceAdd, zDk]
    refine CW_block (MW_loop (fun j f M' => ∃ i : Nat, j = xs.length - i ∧ f = [(1, .pointer (some ⟨b1, 0, none⟩)), (3, .int .i64 (i : Nat))] ∧ i ≤ xs.length ∧ M' = M1 ∧ ∀ s ∈ xs.take i, s.size = 224) xs.length ?_ ?_)
    · refine ⟨[1, 3], ?_⟩
      simp only [zZ, reduceIte, Nat.reduceLT, Int.reduceToNat, Int.reduceLE, Int.reduceEq, Int.reduceLT, Nat.reduceEqDiff, Nat.reduceAdd, keepF]
      exact ⟨M1, Thin.refl _, 0, rfl, rfl, by omega, rfl, by simp⟩
    · rintro j f M' ⟨i, rfl, rfl, hi, rfl, hall⟩
      refine CW_seq (CW_seq (CW_region ?_))
      simp only [zZ, reduceIte, Nat.reduceLT, Int.reduceToNat, Int.reduceLE, Int.reduceEq, Int.reduceLT, Nat.reduceEqDiff, Nat.reduceAdd, zDk, g1, k7]
      refine (CW_cond (decide ((i : Int) < (xs.length : Int))) (by rfl) (fun hq => CW_skip ?_) (fun hq => CW_exit ?_))
      · have hq' := of_decide_eq_true hq
        obtain ⟨x, hx⟩ : ∃ x, xs[i]? = some x := ⟨_, List.getElem?_eq_getElem (by omega)⟩
        obtain ⟨g, ro, rfl, g2, c2⟩ := h1.cell hx
        have z0 : (0 : Int) ≤ (i : Int) := by omega
        have w1 : IntKind.i64.wrap ((i : Int) + 1) = ((i + 1 : Nat) : Int) := by rw [wri (by omega) (by omega)]; omega
        simp only [zZ, reduceIte, Nat.reduceLT, Int.reduceToNat, Int.reduceLE, Int.reduceEq, Int.reduceLT, Nat.reduceEqDiff, Nat.reduceAdd, zDk]
        by_cases hb : x.size = 224
        · have q2 : (((bsize x : Nat) : Int) != 224) = false := by
            have : bsize x = 224 := hb
            rw [this]; rfl
          refine CW_seq (CW_block (CW_seq (CW_region ?_)))
          simp only [zZ, reduceIte, Nat.reduceLT, Int.reduceToNat, Int.reduceLE, Int.reduceEq, Int.reduceLT, Nat.reduceEqDiff, Nat.reduceAdd, zDk, z0, hq', and_self, g1, k7, g2, Int.toNat_natCast, c2, q2]
          refine CW_cond false (by rfl) (fun h => by cases h) (fun _ => CW_skip ?_)
          simp only [zZ, reduceIte, Nat.reduceLT, Int.reduceToNat, Int.reduceLE, Int.reduceEq, Int.reduceLT, Nat.reduceEqDiff, Nat.reduceAdd, zDk]
          refine CW_region ?_
          simp only [zZ, reduceIte, Nat.reduceLT, Int.reduceToNat, Int.reduceLE, Int.reduceEq, Int.reduceLT, Nat.reduceEqDiff, Nat.reduceAdd, zDk, w1]
          refine ⟨[1, 3], ?_⟩
          simp only [zZ, reduceIte, Nat.reduceLT, Int.reduceToNat, Int.reduceLE, Int.reduceEq, Int.reduceLT, Nat.reduceEqDiff, Nat.reduceAdd, keepF]
          exact ⟨_, Thin.refl _, xs.length - (i + 1), ⟨i + 1, rfl, rfl, by omega, rfl, take_size hall hx hb⟩, by omega⟩
        · have q2 : (((bsize x : Nat) : Int) != 224) = true := by
            have : bsize x ≠ 224 := hb
            simp; omega
          refine CW_seq (CW_block (CW_seq (CW_region ?_)))
          simp only [zZ, reduceIte, Nat.reduceLT, Int.reduceToNat, Int.reduceLE, Int.reduceEq, Int.reduceLT, Nat.reduceEqDiff, Nat.reduceAdd, zDk, z0, hq', and_self, g1, k7, g2, Int.toNat_natCast, c2, q2]
          refine CW_cond true (by rfl) (fun _ => CW_seq (CW_region ?_)) (fun h => by cases h)
          simp only [zZ, reduceIte, Nat.reduceLT, Int.reduceToNat, Int.reduceLE, Int.reduceEq, Int.reduceLT, Nat.reduceEqDiff, Nat.reduceAdd, zDk]
          refine CW_ret ?_
          simp only [zZ, reduceIte, Nat.reduceLT, Int.reduceToNat, Int.reduceLE, Int.reduceEq, Int.reduceLT, Nat.reduceEqDiff, Nat.reduceAdd, zDk, mEnd, sAnswer, sAnswer.sRes]
          exact ⟨_, Thin.refl _, by rw [show shapeB h xs = false by unfold shapeB; rw [sizes_not (List.mem_of_getElem? hx) hb, Bool.and_false]], mo⟩
      · have hq' := of_decide_eq_false hq
        obtain rfl : i = xs.length := by omega
        rw [List.take_length] at hall
        simp only [zZ, reduceIte, Nat.reduceLT, Int.reduceToNat, Int.reduceLE, Int.reduceEq, Int.reduceLT, Nat.reduceEqDiff, Nat.reduceAdd, zDk]
        refine ⟨[1], ?_⟩
        simp only [zZ, reduceIte, Nat.reduceLT, Int.reduceToNat, Int.reduceLE, Int.reduceEq, Int.reduceLT, Nat.reduceEqDiff, Nat.reduceAdd, keepF]
        exact ⟨_, Thin.refl _, rfl, sizes_all hall⟩
  · rintro f M2 ⟨rfl, rfl, hsz⟩
    have q3 : (((xs.length : Nat) : Int) == h.n) = shapeB h xs := by
      unfold shapeB
      rw [hsz, Bool.and_true, Bool.eq_iff_iff]
      simp
    refine CW_seq (CW_region ?_)
    simp only [zZ, reduceIte, Nat.reduceLT, Int.reduceToNat, Int.reduceLE, Int.reduceEq, Int.reduceLT, Nat.reduceEqDiff, Nat.reduceAdd, zDk, g1, k7, k2, q3]
    refine CW_ret ?_
    simp only [zZ, reduceIte, Nat.reduceLT, Int.reduceToNat, Int.reduceLE, Int.reduceEq, Int.reduceLT, Nat.reduceEqDiff, Nat.reduceAdd, zDk, mEnd, sAnswer, sAnswer.sRes]
    exact ⟨_, Thin.refl _, mo⟩
theorem joinB_flat (xs : List ByteArray) : Lib.join (xs.map (·.data.toList)) [] = flatB xs := by
  have : ∀ l : List (List UInt8), Lib.join l [] = l.flatten := fun l => by
    cases l with
    | nil => rfl
    | cons x r => rw [Lib.join_cons]; simp [Lib.joinTail]
  rw [this]
  unfold flatB
  rw [List.flatMap_def]
theorem joinB_spec {M : Mem} {V : Value} {xs : List ByteArray} (h : BlR M V xs) (hl : xs.length ≤ 1000) (hs : sizesB xs = true) :
    Abs.Spec Tryz.prog 16 [V, .string ⟨#[]⟩] M fun u M' => u = .string (str (flatB xs)) ∧ M' = M := by
  have hfl := flatB_len xs hs
  obtain ⟨a, c, rfl⟩ := h.len
  rcases xs with _ | ⟨x, r⟩
  · exact Abs.Spec.of_below rfl fun ι w ys hy hr => by
      obtain ⟨a', b', rfl, ha, hb⟩ := vrels_two hy
      cases hb
      have : ∃ p c', a' = .slice p 0 c' := by cases ha <;> exact ⟨_, _, rfl⟩
      obtain ⟨p, c', rfl⟩ := this
      refine (Tryz.strings_Join_none p c' _ w).mono ?_
      rintro e w' ⟨rfl, rfl⟩
      exact ⟨rfl, Below.refl _ _⟩
  · obtain ⟨g, ro, rfl, hg⟩ := Rd.at h (by simp)
    have e2 : Lib.join ((x :: r).map (·.data.toList)) (⟨#[]⟩ : ByteArray).data.toList = flatB (x :: r) := joinB_flat _
    have k := join_spec g ro (x :: r) c ⟨#[]⟩ M hg (by simp) (by omega) (by rw [e2, hfl]; omega)
    rw [e2] at k
    exact k
theorem bcat_str (a b : List UInt8) : bcat (str a) (str b) = str (a ++ b) := rfl
set_option maxRecDepth 100000 in
set_option maxHeartbeats 8000000 in
theorem aput_spec (h : Header) (xs : List ByteArray) (hl : xs.length ≤ 1000) (M : Mem) (V : Value) (hr : BlR M V xs) :
    Abs.Spec Tryz.prog 6 [.agg (archC h V)] M fun u M' => u = .tuple #[.string (str (putA h xs).1), .int .i64 (putA h xs).2] ∧ More M M' := by
  obtain ⟨p, c, rfl⟩ := hr.len
  have bx := bx_arch
  generalize aStride Tryz.prog 26 = s3 at bx
  have k7 : ∀ (s : Nat) (h : Header) V, cellIn 7 (some (.cells false s (archC h V).toList)) = some V := fun _ _ _ => rfl
  have row7 : ∀ (s : Nat) (h : Header) V, rowIn 7 0 (some (.cells false s (archC h V).toList)) = some (.agg h.cells.toArray) := fun _ _ _ => rfl
  have row8 : ∀ (s : Nat) (h : Header) V, rowIn 8 0 (some (.cells false s (archC h V).toList)) = some (.agg (archC h V)) := fun _ _ _ => rfl
  obtain ⟨M1, hM1⟩ : ∃ M1, M1 = M.push (.cells false s3 (archC h (.slice p xs.length c)).toList) := ⟨_, rfl⟩
  have mo : More M M1 := by rw [hM1]; exact More.push _ _
  have g1 : M1.get M.size = some (.cells false s3 (archC h (.slice p xs.length c)).toList) := by rw [hM1, Mem.get_push_new]
  obtain ⟨b1, hb1⟩ : ∃ b, b = M.size := ⟨_, rfl⟩
  have h1 := hr.same mo.get
  have e0 : str [] = ⟨#[]⟩ := rfl
  refine Abs.Spec.walkM Tryz.func6 (by rfl) _ Tryz.results6 _ Tryz.ntmps6 (by simp) ?_
  intro _ _ _
  refine CW_seq (CW_region ?_)
  simp only [zZ, reduceIte, Nat.reduceLT, Int.reduceToNat, Int.reduceLE, Int.reduceEq, Int.reduceLT, Nat.reduceEqDiff, Nat.reduceAdd, zDk, bx]
  rw [← hM1]
  rw [← hb1] at g1 ⊢
  refine CW_seq (CW_region ?_)
  simp only [zZ, reduceIte, Nat.reduceLT, Int.reduceToNat, Int.reduceLE, Int.reduceEq, Int.reduceLT, Nat.reduceEqDiff, Nat.reduceAdd, zDk, g1, row7]
  refine ⟨by kernel_rfl, _, hput_spec h M1, ?_⟩
  rintro _ M2 ⟨rfl, mo2⟩
  simp only [zZ, reduceIte, Nat.reduceLT, Int.reduceToNat, Int.reduceLE, Int.reduceEq, Int.reduceLT, Nat.reduceEqDiff, Nat.reduceAdd, zDk]
  have g2 := mo2.get _ _ g1
  have h2 := h1.same mo2.get
  rcases check_01 h with e | e
  · have hp : putT h = str (headText h) := by unfold putT; rw [if_pos e]
    have t0 : ((0 : Int) == 0) = true := rfl
    have n0 : ((0 : Int) != 0) = false := rfl
    have n2 : ((2 : Int) != 0) = true := rfl
    rw [e, hp]
    have ea : putA h xs = if shapeB h xs = true then (headText h ++ flatB xs, 0) else ([], 2) := if_pos e
    refine MW_mid (fun f M' => f = [(1, .pointer (some ⟨b1, 0, none⟩)), (4, .string (str (headText h))), (5, .int .i64 (if shapeB h xs = true then 0 else 2))] ∧ More M2 M') ?_ ?_
    · refine CW_seq (CW_region ?_)
      simp only [zZ, reduceIte, Nat.reduceLT, Int.reduceToNat, Int.reduceLE, Int.reduceEq, Int.reduceLT, Nat.reduceEqDiff, Nat.reduceAdd, zDk, t0]
      refine CW_cond true (by rfl) (fun _ => CW_region ?_) (fun h => by cases h)
      simp only [zZ, reduceIte, Nat.reduceLT, Int.reduceToNat, Int.reduceLE, Int.reduceEq, Int.reduceLT, Nat.reduceEqDiff, Nat.reduceAdd, zDk, g2, row8]
      refine ⟨by kernel_rfl, _, ashape_spec h xs hl M2 _ h2, ?_⟩
      rintro _ M3 ⟨rfl, mo3⟩
      simp only [zZ, reduceIte, Nat.reduceLT, Int.reduceToNat, Int.reduceLE, Int.reduceEq, Int.reduceLT, Nat.reduceEqDiff, Nat.reduceAdd, zDk]
      refine ⟨[1, 4, 5], ?_⟩
      simp only [zZ, reduceIte, Nat.reduceLT, Int.reduceToNat, Int.reduceLE, Int.reduceEq, Int.reduceLT, Nat.reduceEqDiff, Nat.reduceAdd, keepF]
      exact ⟨_, Thin.refl _, mo3⟩
    · rintro f M3 ⟨rfl, mo3⟩
      have g3 := mo3.get _ _ g2
      have h3 := h2.same mo3.get
      rcases hsh : shapeB h xs with _ | _
      · rw [hsh] at ea
        rw [if_neg (by decide)] at ea ⊢
        refine CW_seq (CW_seq (CW_region ?_))
        simp only [zZ, reduceIte, Nat.reduceLT, Int.reduceToNat, Int.reduceLE, Int.reduceEq, Int.reduceLT, Nat.reduceEqDiff, Nat.reduceAdd, zDk, n2]
        refine CW_cond true (by rfl) (fun _ => CW_seq (CW_region ?_)) (fun h => by cases h)
        simp only [zZ, reduceIte, Nat.reduceLT, Int.reduceToNat, Int.reduceLE, Int.reduceEq, Int.reduceLT, Nat.reduceEqDiff, Nat.reduceAdd, zDk]
        refine CW_ret ?_
        simp only [zZ, reduceIte, Nat.reduceLT, Int.reduceToNat, Int.reduceLE, Int.reduceEq, Int.reduceLT, Nat.reduceEqDiff, Nat.reduceAdd, zDk, mEnd, sAnswer, sAnswer.sRes]
        exact ⟨_, Thin.refl _, by rw [ea]; rfl, (mo.trans mo2).trans mo3⟩
      · rw [hsh] at ea
        rw [if_pos rfl] at ea ⊢
        have hsz : sizesB xs = true := by unfold shapeB at hsh; rw [Bool.and_eq_true] at hsh; exact hsh.2
        have hln := headText_len (h.check_zero.1 e)
        have hfl := flatB_len xs hsz
        have hcat : bsize (str (headText h)) + bsize (str (flatB xs)) ≤ 4611686018427387904 := by
          have e1 : bsize (str (headText h)) = (headText h).length := rfl
          have e2 : bsize (str (flatB xs)) = (flatB xs).length := rfl
          rw [e1, e2]; omega
        refine CW_seq (CW_seq (CW_region ?_))
        simp only [zZ, reduceIte, Nat.reduceLT, Int.reduceToNat, Int.reduceLE, Int.reduceEq, Int.reduceLT, Nat.reduceEqDiff, Nat.reduceAdd, zDk, n0]
        refine CW_cond false (by rfl) (fun h => by cases h) (fun _ => CW_skip ?_)
        simp only [zZ, reduceIte, Nat.reduceLT, Int.reduceToNat, Int.reduceLE, Int.reduceEq, Int.reduceLT, Nat.reduceEqDiff, Nat.reduceAdd, zDk]
        refine CW_seq (CW_region ?_)
        simp only [zZ, reduceIte, Nat.reduceLT, Int.reduceToNat, Int.reduceLE, Int.reduceEq, Int.reduceLT, Nat.reduceEqDiff, Nat.reduceAdd, zDk, g3, k7]
        refine ⟨by kernel_rfl, _, joinB_spec h3 hl hsz, ?_⟩
        rintro _ M9 ⟨rfl, e9⟩; replace e9 := e9.symm; subst e9
        simp only [zZ, reduceIte, Nat.reduceLT, Int.reduceToNat, Int.reduceLE, Int.reduceEq, Int.reduceLT, Nat.reduceEqDiff, Nat.reduceAdd, zDk]
        refine ⟨hcat, ?_⟩
        simp only [zZ, reduceIte, Nat.reduceLT, Int.reduceToNat, Int.reduceLE, Int.reduceEq, Int.reduceLT, Nat.reduceEqDiff, Nat.reduceAdd, zDk, bcat_str]
        refine CW_ret ?_
        simp only [zZ, reduceIte, Nat.reduceLT, Int.reduceToNat, Int.reduceLE, Int.reduceEq, Int.reduceLT, Nat.reduceEqDiff, Nat.reduceAdd, zDk, mEnd, sAnswer, sAnswer.sRes]
        exact ⟨_, Thin.refl _, by rw [ea], (mo.trans mo2).trans mo3⟩
  · have hp : putT h = ⟨#[]⟩ := by unfold putT; rw [if_neg (by rw [e]; decide)]
    have t1 : ((1 : Int) == 0) = false := rfl
    have n1 : ((1 : Int) != 0) = true := rfl
    have ea : putA h xs = ([], 1) := by unfold putA; rw [if_neg (by rw [e]; decide)]
    rw [e, hp]
    refine MW_mid (fun f M' => f = [(5, .int .i64 1)] ∧ M' = M2) ?_ ?_
    · refine CW_seq (CW_region ?_)
      simp only [zZ, reduceIte, Nat.reduceLT, Int.reduceToNat, Int.reduceLE, Int.reduceEq, Int.reduceLT, Nat.reduceEqDiff, Nat.reduceAdd, zDk, t1]
      refine CW_cond false (by rfl) (fun h => by cases h) (fun _ => CW_skip ?_)
      refine ⟨[5], ?_⟩
      simp only [zZ, reduceIte, Nat.reduceLT, Int.reduceToNat, Int.reduceLE, Int.reduceEq, Int.reduceLT, Nat.reduceEqDiff, Nat.reduceAdd, keepF]
      exact ⟨_, Thin.refl _, rfl⟩
    · rintro _ M9 ⟨rfl, e9⟩; replace e9 := e9.symm; subst e9
      refine CW_seq (CW_seq (CW_region ?_))
      simp only [zZ, reduceIte, Nat.reduceLT, Int.reduceToNat, Int.reduceLE, Int.reduceEq, Int.reduceLT, Nat.reduceEqDiff, Nat.reduceAdd, zDk, n1]
      refine CW_cond true (by rfl) (fun _ => CW_seq (CW_region ?_)) (fun h => by cases h)
      simp only [zZ, reduceIte, Nat.reduceLT, Int.reduceToNat, Int.reduceLE, Int.reduceEq, Int.reduceLT, Nat.reduceEqDiff, Nat.reduceAdd, zDk]
      refine CW_ret ?_
      simp only [zZ, reduceIte, Nat.reduceLT, Int.reduceToNat, Int.reduceLE, Int.reduceEq, Int.reduceLT, Nat.reduceEqDiff, Nat.reduceAdd, zDk, mEnd, sAnswer, sAnswer.sRes]
      exact ⟨_, Thin.refl _, by rw [ea]; rfl, mo.trans mo2⟩
end Go.Proofs.YtkifimkcmfglmaaGreatDoor
namespace Go.Proofs.YtkifimkcmfglmaaGreatDoor
open Go.RowKit Abs
def encA (s : ByteArray) : List Value := [.string s]
abbrev BlOwn (k : Nat) (M : Mem) (V : Value) (L : List ByteArray) : Prop := OwnL encA 1 k M V L
theorem encA_map (L : List ByteArray) : L.flatMap encA = L.map Value.string := flat_one Value.string L
theorem new_bl1 (s : ByteArray) : nBuildSlice Tryz.prog 24 1 [(0, .string s)] = some (.cells false 1 (encA s)) := by kernel_rfl
theorem blapp {k : Nat} {M : Mem} {V : Value} {L : List ByteArray} (h : BlOwn k M V L) (hk : k ≤ M.size) (hl : L.length ≤ 1000000) (x : ByteArray) :
    ∃ M' V', aAppend Tryz.prog (M.push (.cells false 1 (encA x))) 24 24 V (.slice (some ⟨M.size, 0, none⟩) 1 1) = some (V', M') ∧ blkOf V' = some (M.size + 1) ∧ BlOwn k M' V' (L ++ [x]) ∧
      M'.size = M.size + 2 ∧ (∀ b y, blkOf V ≠ some b → M.get b = some y → M'.get b = some y) :=
  oapp Tryz.underlying24 inf_Str Str_zero sz_Str rfl Tryz.underlying24 (fun _ => rfl) Str_bytes h hk hl x 1
theorem BlOwn.rd {k : Nat} {M : Mem} {V : Value} {L : List ByteArray} (h : BlOwn k M V L) (hl : L.length ≤ 1000000) : BlR M V L := by
  have hm : (1000000 : Nat) ≤ maxLen := by decide
  rcases h with ⟨rfl, rfl⟩ | ⟨h0, g, _, rfl, hg⟩
  · exact ⟨none, 0, rfl, rfl, Nat.le_refl _, Nat.zero_le _, fun _ => rfl, fun p hp => by cases hp⟩
  · refine ⟨_, _, rfl, by simp, Nat.le_refl _, by omega, (fun h => by cases h), fun p hp => ?_⟩
    cases hp
    exact ⟨g, rfl, fun _ => ⟨false, by rw [← encA_map]; exact hg⟩⟩
theorem hdrT_two (s : ByteArray) : (hdrT s).2 = 0 ∨ (hdrT s).2 = 2 := by
  unfold hdrT
  split
  · exact .inl rfl
  · exact .inr rfl
theorem blocksL_succ (s : List UInt8) (i : Nat) : blocksL s i ++ [str (cutL s (98 + 224 * i) 224)] = blocksL s (i + 1) := by
  unfold blocksL
  rw [List.range_succ, List.map_append]
  rfl
theorem blocksL_len (s : List UInt8) (n : Nat) : (blocksL s n).length = n := by simp [blocksL]
def TakeR (s : List UInt8) (M : Mem) (u : Value) (M' : Mem) : Prop := ∃ V, u = .tuple #[.agg (archC (takeA s).1.1 V), .int .i64 (takeA s).2] ∧ BlR M' V (takeA s).1.2 ∧ More M M'
theorem blr_nil (M : Mem) : BlR M (.slice none 0 0) [] := ⟨none, 0, rfl, rfl, Nat.le_refl _, Nat.zero_le _, fun _ => rfl, fun p hp => by cases hp⟩
theorem takeA_bad (s : List UInt8) (h : s.length < 98 ∨ (hdrT (str (s.take 98))).2 ≠ 0 ∨ ((s.length : Int) - 98) ≠ (hdrT (str (s.take 98))).1.n * 224) : takeA s = ((noHead, []), 2) := by
  unfold takeA
  by_cases h1 : s.length < 98
  · rw [if_pos h1]
  · rw [if_neg h1, if_pos (by rcases h with h | h; exact absurd h h1; exact h)]
theorem TakeR.bad {s : List UInt8} {M M' : Mem} (h : s.length < 98 ∨ (hdrT (str (s.take 98))).2 ≠ 0 ∨ ((s.length : Int) - 98) ≠ (hdrT (str (s.take 98))).1.n * 224) (mo : More M M') :
    TakeR s M (.tuple #[.agg (archC noHead (.slice none 0 0)), .int .i64 2]) M' := by
  refine ⟨.slice none 0 0, ?_, ?_, mo⟩
  · rw [takeA_bad s h]
  · rw [takeA_bad s h]; exact blr_nil _
theorem TakeR.good {s : List UInt8} {M M' : Mem} {V : Value} {n : Nat} {k : Nat} (h0 : ¬ s.length < 98) (h1 : (hdrT (str (s.take 98))).2 = 0) (hn : (hdrT (str (s.take 98))).1.n = (n : Int)) (hl : s.length = 98 + 224 * n) (hn2 : n ≤ 1000000)
    (ho : BlOwn k M' V (blocksL s n)) (mo : More M M') : TakeR s M (.tuple #[.agg (archC (hdrT (str (s.take 98))).1 V), .int .i64 0]) M' := by
  have e : takeA s = (((hdrT (str (s.take 98))).1, blocksL s n), 0) := by
    unfold takeA
    rw [if_neg h0, if_neg (by rw [h1, hn]; intro h; rcases h with h | h; exact h rfl; apply h; omega), hn, Int.toNat_natCast]
  refine ⟨V, by rw [e], ?_, mo⟩
  rw [e]
  exact ho.rd (by rw [blocksL_len]; omega)
set_option maxRecDepth 100000 in
set_option maxHeartbeats 16000000 in
theorem atake_spec (s : List UInt8) (hs : s.length ≤ 1000000) (M : Mem) : Abs.Spec Tryz.prog 8 [.string (str s)] M fun u M' => TakeR s M u M' := by
  have halA : nAlloc Tryz.prog 26 = some (.cells false (aStride Tryz.prog 26) (archC noHead (.slice none 0 0)).toList) := al_Arc
  generalize aStride Tryz.prog 26 = s3 at halA
  have halH : nAlloc Tryz.prog 23 = some (.cells false (aStride Tryz.prog 23) noHead.cells) := al_Hdr
  generalize aStride Tryz.prog 23 = s1 at halH
  have hbd0 : aBuild Tryz.prog 26 [] = some (.agg (archC noHead (.slice none 0 0))) := by kernel_rfl
  have hbd : ∀ (h : Header), aBuild Tryz.prog 26 [(0, .agg h.cells.toArray)] = some (.agg (archC h (.slice none 0 0))) := fun h => by kernel_rfl
  have row8 : ∀ (s : Nat) (h : Header) V, rowIn 8 0 (some (.cells false s (archC h V).toList)) = some (.agg (archC h V)) := fun _ _ _ => rfl
  have rowH : ∀ (s : Nat) (h : Header), rowIn 7 0 (some (.cells false s h.cells)) = some (.agg h.cells.toArray) := fun _ _ => rfl
  have agg8 : ∀ h V, (Value.agg (archC h V)).cells.toList = (archC h V).toList := fun _ _ => rfl
  have aggH : ∀ h : Header, (Value.agg h.cells.toArray).cells.toList = h.cells := fun _ => rfl
  have put8 : ∀ (M0 : Mem) (b : Nat) (h h' : Header) (V : Value) (a : Option Addr) (n c : Nat), putIn 8 M0 b 0 (archC h' (.slice a n c)).toList (some (.cells false s3 (archC h V).toList)) = some (M0.set b (some (.cells false s3 (archC h' (.slice a n c)).toList))) := fun _ _ _ _ _ _ _ _ => rfl
  have putH : ∀ (M0 : Mem) (b : Nat) (h h' : Header), putIn 7 M0 b 0 h'.cells (some (.cells false s1 h.cells)) = some (M0.set b (some (.cells false s1 h'.cells))) := fun _ _ _ _ => rfl
  have k2 : ∀ (h : Header), cellIn 2 (some (.cells false s1 h.cells)) = some (.int .i64 h.n) := fun _ => rfl
  have k7 : ∀ (h : Header) V, cellIn 7 (some (.cells false s3 (archC h V).toList)) = some V := fun _ _ => rfl
  have put7 : ∀ (M0 : Mem) (b : Nat) (h : Header) (V : Value) (a : Option Addr) (n c : Nat), putIn 1 M0 b 7 [.slice a n c] (some (.cells false s3 (archC h V).toList)) = some (M0.set b (some (.cells false s3 (archC h (.slice a n c)).toList))) := fun _ _ _ _ _ _ _ => rfl
  have clS : ∀ (a : Option Addr) (n c : Nat), (Value.slice a n c).cells.toList = [.slice a n c] := fun _ _ _ => rfl
  have hbs : ∀ l : List UInt8, bsize (str l) = l.length := fun _ => rfl
  obtain ⟨b2, hb2⟩ : ∃ b, b = M.size := ⟨_, rfl⟩
  obtain ⟨M1, hM1⟩ : ∃ M1, M1 = M.push (.cells false s3 (archC noHead (.slice none 0 0)).toList) := ⟨_, rfl⟩
  have mo1 : More M M1 := by rw [hM1]; exact More.push _ _
  have g2 : M1.get b2 = some (.cells false s3 (archC noHead (.slice none 0 0)).toList) := by rw [hM1, hb2, Mem.get_push_new]
  have z1 : M1.size = M.size + 1 := by rw [hM1, Mem.size_push]
  -- a result laid
  have fin : ∀ (M' : Mem) (h h' : Header) (V V' : Value), M'.get b2 = some (.cells false s3 (archC h V).toList) → More M M' → (M'.set b2 (some (.cells false s3 (archC h' V').toList))).get b2 = some (.cells false s3 (archC h' V').toList) ∧ More M (M'.set b2 (some (.cells false s3 (archC h' V').toList))) := fun M' h h' V V' hg hm =>
    ⟨Mem.get_set_same hg _, fun b z hb => by
      have := Mem.get_lt hb
      rw [Mem.get_set_ne (by omega)]; exact hm.get b z hb, by rw [Mem.size_set]; exact hm.size⟩
  refine Abs.Spec.walkM Tryz.func8 (by rfl) _ Tryz.results8 _ Tryz.ntmps8 (by simp) ?_
  intro _ _ _
  refine CW_seq (CW_region ?_)
  simp only [zZ, reduceIte, Nat.reduceLT, Int.reduceToNat, Int.reduceLE, Int.reduceEq, Int.reduceLT, Nat.reduceEqDiff, Nat.reduceAdd, zDk, halA]
  rw [← hM1, ← hb2]
  by_cases hlt : s.length < 98
  · have q1 : decide (((s.length : Nat) : Int) < 98) = true := decide_eq_true (by omega)
    obtain ⟨gs, ms⟩ := fin M1 noHead noHead _ (.slice none 0 0) g2 mo1
    refine CW_seq (CW_seq (CW_region ?_))
    simp only [zZ, reduceIte, Nat.reduceLT, Int.reduceToNat, Int.reduceLE, Int.reduceEq, Int.reduceLT, Nat.reduceEqDiff, Nat.reduceAdd, zDk, hbs, q1]
    refine CW_cond true (by rfl) (fun _ => CW_seq (CW_region ?_)) (fun h => by cases h)
    simp only [zZ, reduceIte, Nat.reduceLT, Int.reduceToNat, Int.reduceLE, Int.reduceEq, Int.reduceLT, Nat.reduceEqDiff, Nat.reduceAdd, zDk, hbd0, g2, agg8, put8]
    refine CW_ret ?_
    simp only [zZ, reduceIte, Nat.reduceLT, Int.reduceToNat, Int.reduceLE, Int.reduceEq, Int.reduceLT, Nat.reduceEqDiff, Nat.reduceAdd, zDk, mEnd, sAnswer, sAnswer.sRes, aLoad_g, gs, row8]
    exact ⟨_, Thin.refl _, TakeR.bad (.inl hlt) ms⟩
  have q1 : decide (((s.length : Nat) : Int) < 98) = false := decide_eq_false (by omega)
  refine CW_seq (CW_seq (CW_region ?_))
  simp only [zZ, reduceIte, Nat.reduceLT, Int.reduceToNat, Int.reduceLE, Int.reduceEq, Int.reduceLT, Nat.reduceEqDiff, Nat.reduceAdd, zDk, hbs, q1]
  refine CW_cond false (by rfl) (fun h => by cases h) (fun _ => CW_skip ?_)
  simp only [zZ, reduceIte, Nat.reduceLT, Int.reduceToNat, Int.reduceLE, Int.reduceEq, Int.reduceLT, Nat.reduceEqDiff, Nat.reduceAdd, zDk]
  have sl := fun get => slice_to get (str s) 98 (by rw [str_size]; omega)
  rw [show (str s).data.toList = s from rfl] at sl
  have sl : ∀ get, gSlice Tryz.prog get 9 (.string (str s)) none (some (.int .i64 98)) = some (.string (str (s.take 98))) := sl
  have st := fun get => slice_tail get s 98 (by omega)
  have st : ∀ get, gSlice Tryz.prog get 9 (.string (str s)) (some (.int .i64 98)) none = some (.string (str (s.drop 98))) := st
  obtain ⟨T, hT⟩ : ∃ T, T = hdrT (str (s.take 98)) := ⟨_, rfl⟩
  obtain ⟨b4, hb4⟩ : ∃ b, b = M1.size := ⟨_, rfl⟩
  obtain ⟨M2, hM2⟩ : ∃ M2, M2 = (M1.push (.cells false s1 noHead.cells)).set M1.size (some (.cells false s1 T.1.cells)) := ⟨_, rfl⟩
  have g4 : M2.get b4 = some (.cells false s1 T.1.cells) := by rw [hM2, hb4]; exact Mem.get_set_same (Mem.get_push_new _ _) _
  have mo12 : More M1 M2 := ⟨fun b x hb => by have := Mem.get_lt hb; rw [hM2, Mem.get_set_ne (by omega), Mem.get_push_old this]; exact hb, by rw [hM2, Mem.size_set, Mem.size_push]; omega⟩
  have mo2 := mo1.trans mo12
  have g22 := mo12.get _ _ g2
  refine CW_seq (CW_region ?_)
  simp only [zZ, reduceIte, Nat.reduceLT, Int.reduceToNat, Int.reduceLE, Int.reduceEq, Int.reduceLT, Nat.reduceEqDiff, Nat.reduceAdd, zDk, sl]
  refine ⟨by kernel_rfl, _, htake_at (str (s.take 98)) M1, ?_⟩
  rintro _ M9 ⟨rfl, e9⟩; replace e9 := e9.symm; subst e9
  unfold hdrTV
  rw [← hT]
  simp only [zZ, reduceIte, Nat.reduceLT, Int.reduceToNat, Int.reduceLE, Int.reduceEq, Int.reduceLT, Nat.reduceEqDiff, Nat.reduceAdd, zDk, halH, Mem.get_push_new, aggH, putH]
  rw [← hM2, ← hb4]
  refine CW_seq (CW_region ?_)
  simp only [zZ, reduceIte, Nat.reduceLT, Int.reduceToNat, Int.reduceLE, Int.reduceEq, Int.reduceLT, Nat.reduceEqDiff, Nat.reduceAdd, zDk, st]
  have hd : (s.drop 98).length = s.length - 98 := List.length_drop
  rcases hdrT_two (str (s.take 98)) with e | e
  · rw [← hT] at e
    have hok := (hdrT_back (s.take 98) (by rw [← hT]; exact e)).2.1
    rw [← hT] at hok
    obtain ⟨hn0, hn1⟩ := okP_n hok
    obtain ⟨n, hn⟩ : ∃ n : Nat, T.1.n = (n : Int) := ⟨T.1.n.toNat, by omega⟩
    have t0 : ((0 : Int) == 0) = true := rfl
    have w5 : IntKind.i64.wrap (T.1.n * 224) = T.1.n * 224 := wri (by omega) (by omega)
    rw [e]
    by_cases hne : (s.length : Int) - 98 = T.1.n * 224
    · have q5 : ((((s.length - 98 : Nat)) : Int) != T.1.n * 224) = false := by rw [← hne]; simp; omega
      have n0 : ((0 : Int) != 0) = false := rfl
      refine MW_mid (fun f M' => f = [(0, .string (str (s.drop 98))), (2, .pointer (some ⟨b2, 0, none⟩)), (4, .pointer (some ⟨b4, 0, none⟩)), (5, .int .i64 0)] ∧ M' = M2) ?_ ?_
      · refine CW_seq (CW_region ?_)
        simp only [zZ, reduceIte, Nat.reduceLT, Int.reduceToNat, Int.reduceLE, Int.reduceEq, Int.reduceLT, Nat.reduceEqDiff, Nat.reduceAdd, zDk, hbs, hd, t0, g4, k2, w5, q5]
        refine CW_cond false (by rfl) (fun h => by cases h) (fun _ => CW_skip ?_)
        refine ⟨[0, 2, 4, 5], ?_⟩
        simp only [zZ, reduceIte, Nat.reduceLT, Int.reduceToNat, Int.reduceLE, Int.reduceEq, Int.reduceLT, Nat.reduceEqDiff, Nat.reduceAdd, keepF]
        exact ⟨_, Thin.refl _, rfl⟩
      rintro f M9 ⟨rfl, e9⟩; subst e9
      refine CW_seq (CW_seq (CW_region ?_))
      simp only [zZ, reduceIte, Nat.reduceLT, Int.reduceToNat, Int.reduceLE, Int.reduceEq, Int.reduceLT, Nat.reduceEqDiff, Nat.reduceAdd, zDk, n0]
      refine CW_cond false (by rfl) (fun h => by cases h) (fun _ => CW_skip ?_)
      simp only [zZ, reduceIte, Nat.reduceLT, Int.reduceToNat, Int.reduceLE, Int.reduceEq, Int.reduceLT, Nat.reduceEqDiff, Nat.reduceAdd, zDk]
      obtain ⟨b6, hb6⟩ : ∃ b, b = M9.size := ⟨_, rfl⟩
      obtain ⟨M3, hM3⟩ : ∃ M3, M3 = (M9.push (.cells false s3 (archC noHead (.slice none 0 0)).toList)).set M9.size (some (.cells false s3 (archC T.1 (.slice none 0 0)).toList)) := ⟨_, rfl⟩
      have g6 : M3.get b6 = some (.cells false s3 (archC T.1 (.slice none 0 0)).toList) := by rw [hM3, hb6]; exact Mem.get_set_same (Mem.get_push_new _ _) _
      have mo23 : More M9 M3 := ⟨fun b x hb => by have := Mem.get_lt hb; rw [hM3, Mem.get_set_ne (by omega), Mem.get_push_old this]; exact hb, by rw [hM3, Mem.size_set, Mem.size_push]; omega⟩
      have z3 : M3.size = M9.size + 1 := by rw [hM3, Mem.size_set, Mem.size_push]
      have mo3 := mo2.trans mo23
      have g23 := mo23.get _ _ g22
      have hlen : s.length = 98 + 224 * n := by omega
      have lt2 := Mem.get_lt g22
      refine CW_seq (CW_region ?_)
      simp only [zZ, reduceIte, Nat.reduceLT, Int.reduceToNat, Int.reduceLE, Int.reduceEq, Int.reduceLT, Nat.reduceEqDiff, Nat.reduceAdd, zDk, g4, rowH, hbd, halA, Mem.get_push_new, agg8, put8]
      rw [← hM3, ← hb6]
      refine MW_mid (fun f M' => f = [(2, .pointer (some ⟨b2, 0, none⟩)), (6, .pointer (some ⟨b6, 0, none⟩))] ∧ ∃ V, M'.get b6 = some (.cells false s3 (archC T.1 V).toList) ∧ M'.get b2 = some (.cells false s3 (archC noHead (.slice none 0 0)).toList) ∧ BlOwn M3.size M' V (blocksL s n) ∧ More M M') ?_ ?_
      · refine CW_block (MW_loop (fun j f M' => ∃ (i : Nat) (V : Value), j = n - i ∧ f = [(0, .string (str (s.drop (98 + 224 * i)))), (2, .pointer (some ⟨b2, 0, none⟩)), (6, .pointer (some ⟨b6, 0, none⟩))] ∧ i ≤ n ∧
          M'.get b6 = some (.cells false s3 (archC T.1 V).toList) ∧ M'.get b2 = some (.cells false s3 (archC noHead (.slice none 0 0)).toList) ∧ BlOwn M3.size M' V (blocksL s i) ∧ More M M' ∧ M3.size ≤ M'.size) n ?_ ?_)
        · refine ⟨[0, 2, 6], ?_⟩
          simp only [zZ, reduceIte, Nat.reduceLT, Int.reduceToNat, Int.reduceLE, Int.reduceEq, Int.reduceLT, Nat.reduceEqDiff, Nat.reduceAdd, keepF]
          exact ⟨M3, Thin.refl _, 0, _, rfl, rfl, by omega, g6, g23, OwnL.nil _ _, mo3, Nat.le_refl _⟩
        · rintro j f M' ⟨i, V, rfl, rfl, hi, h6, h2, hown, hmo, hsz⟩
          have hdl : (s.drop (98 + 224 * i)).length = 224 * (n - i) := by rw [List.length_drop]; omega
          refine CW_seq (CW_seq (CW_region ?_))
          simp only [zZ, reduceIte, Nat.reduceLT, Int.reduceToNat, Int.reduceLE, Int.reduceEq, Int.reduceLT, Nat.reduceEqDiff, Nat.reduceAdd, zDk]
          by_cases hin : i < n
          · have qn : (!beqB (str (s.drop (98 + 224 * i))) ⟨#[]⟩) = true := by
              rw [Bool.not_eq_true', show (⟨#[]⟩ : ByteArray) = str [] from rfl, beqB_dec, decide_eq_false]
              intro h
              have := congrArg ByteArray.size h
              rw [str_size, str_size, hdl] at this
              simp at this
              omega
            obtain ⟨pa, pc, rfl⟩ := hown.len
            rw [blocksL_len] at h6 hown
            have sl2 := fun get => slice_to get (str (s.drop (98 + 224 * i))) 224 (by rw [str_size, hdl]; omega)
            have sl2 : ∀ get, gSlice Tryz.prog get 9 (.string (str (s.drop (98 + 224 * i)))) none (some (.int .i64 224)) = some (.string (str (cutL s (98 + 224 * i) 224))) := sl2
            have st2 := fun get => slice_tail get (s.drop (98 + 224 * i)) 224 (by rw [hdl]; omega)
            have st2 : ∀ get, gSlice Tryz.prog get 9 (.string (str (s.drop (98 + 224 * i)))) (some (.int .i64 224)) none = some (.string (str (s.drop (98 + 224 * (i + 1))))) := fun get => by
              have := st2 get
              rw [List.drop_drop, show 98 + 224 * i + 224 = 98 + 224 * (i + 1) by omega] at this
              exact this
            have nw := new_bl1 (str (cutL s (98 + 224 * i) 224))
            obtain ⟨M4, V4, ap4, hb4', hown4, hs4, hold4⟩ := blapp hown hsz (by rw [blocksL_len]; omega) (str (cutL s (98 + 224 * i) 224))
            rw [blocksL_succ] at hown4
            obtain ⟨pa4, pc4, rfl⟩ := hown4.len
            have hlv : ∀ b, blkOf (.slice pa i pc) = some b → M3.size ≤ b := fun b hb => (hown.live hb).1
            have l6 := Mem.get_lt g6
            have l2 := Mem.get_lt g23
            have h64 := hold4 b6 _ (fun hb => by have := hlv b6 hb; omega) h6
            have h24 := hold4 b2 _ (fun hb => by have := hlv b2 hb; omega) h2
            have hne62 : b6 ≠ b2 := by omega
            refine CW_cond true (by rw [qn]; rfl) (fun _ => CW_skip ?_) (fun h => by cases h)
            simp only [zZ, reduceIte, Nat.reduceLT, Int.reduceToNat, Int.reduceLE, Int.reduceEq, Int.reduceLT, Nat.reduceEqDiff, Nat.reduceAdd, zDk]
            refine CW_seq (CW_block (CW_all hmix (by kernel_rfl) ?_))
            simp only [zZ, reduceIte, Nat.reduceLT, Int.reduceToNat, Int.reduceLE, Int.reduceEq, Int.reduceLT, Nat.reduceEqDiff, Nat.reduceAdd, zDk, h6, k7, sl2, nw, ap4, h64, clS, put7]
            refine CW_region ?_
            simp only [zZ, reduceIte, Nat.reduceLT, Int.reduceToNat, Int.reduceLE, Int.reduceEq, Int.reduceLT, Nat.reduceEqDiff, Nat.reduceAdd, zDk, st2]
            refine ⟨[0, 2, 6], ?_⟩
            simp only [zZ, reduceIte, Nat.reduceLT, Int.reduceToNat, Int.reduceLE, Int.reduceEq, Int.reduceLT, Nat.reduceEqDiff, Nat.reduceAdd, keepF]
            refine ⟨_, Thin.refl _, n - (i + 1), ⟨i + 1, _, rfl, rfl, by omega, Mem.get_set_same h64 _, by rw [Mem.get_set_ne hne62]; exact h24, hown4.same (fun b x hb hx => ?_), ⟨fun b x hb => ?_, by rw [Mem.size_set]; have := hmo.size; omega⟩, by rw [Mem.size_set]; omega⟩, by omega⟩
            · have := (hown4.live hb).1
              rw [Mem.get_set_ne (by omega)]; exact hx
            · have lb := Mem.get_lt hb
              rw [Mem.get_set_ne (by omega)]
              refine hold4 b x (fun e => ?_) (hmo.get b x hb)
              have := hlv b e
              have := mo3.size
              omega
          · obtain rfl : i = n := by omega
            have qn : (!beqB (str (s.drop (98 + 224 * i))) ⟨#[]⟩) = false := by
              have : s.drop (98 + 224 * i) = [] := List.length_eq_zero_iff.1 (by rw [hdl]; omega)
              rw [this]; rfl
            refine CW_cond false (by rw [qn]; rfl) (fun h => by cases h) (fun _ => CW_exit ?_)
            simp only [zZ, reduceIte, Nat.reduceLT, Int.reduceToNat, Int.reduceLE, Int.reduceEq, Int.reduceLT, Nat.reduceEqDiff, Nat.reduceAdd, zDk]
            refine ⟨[2, 6], ?_⟩
            simp only [zZ, reduceIte, Nat.reduceLT, Int.reduceToNat, Int.reduceLE, Int.reduceEq, Int.reduceLT, Nat.reduceEqDiff, Nat.reduceAdd, keepF]
            exact ⟨_, Thin.refl _, V, h6, h2, hown, hmo⟩
      · rintro f M5 ⟨rfl, V, h6, h2, hown, hmo⟩
        obtain ⟨pa, pc, rfl⟩ := hown.len
        obtain ⟨gs, ms⟩ := fin M5 noHead T.1 _ (.slice pa (blocksL s n).length pc) h2 hmo
        have own2 : BlOwn M3.size (M5.set b2 (some (.cells false s3 (archC T.1 (.slice pa (blocksL s n).length pc)).toList))) (.slice pa (blocksL s n).length pc) (blocksL s n) := hown.same fun b x hb hx => by
          have := (hown.live hb).1
          have := Mem.get_lt g23
          rw [Mem.get_set_ne (by omega)]; exact hx
        refine CW_seq (CW_region ?_)
        simp only [zZ, reduceIte, Nat.reduceLT, Int.reduceToNat, Int.reduceLE, Int.reduceEq, Int.reduceLT, Nat.reduceEqDiff, Nat.reduceAdd, zDk, h6, row8, h2, agg8, put8]
        refine CW_ret ?_
        simp only [zZ, reduceIte, Nat.reduceLT, Int.reduceToNat, Int.reduceLE, Int.reduceEq, Int.reduceLT, Nat.reduceEqDiff, Nat.reduceAdd, zDk, mEnd, sAnswer, sAnswer.sRes, aLoad_g, gs, row8]
        have fin9 := TakeR.good (M := M) hlt (by rw [← hT]; exact e) (by rw [← hT]; exact hn) hlen (by omega) own2 ms
        rw [← hT] at fin9
        exact ⟨_, Thin.refl _, fin9⟩
    · have q5 : ((((s.length - 98 : Nat)) : Int) != T.1.n * 224) = true := by simp; omega
      have n2 : ((2 : Int) != 0) = true := rfl
      refine MW_mid (fun f M' => f = [(2, .pointer (some ⟨b2, 0, none⟩)), (5, .int .i64 2)] ∧ M' = M2) ?_ ?_
      · refine CW_seq (CW_region ?_)
        simp only [zZ, reduceIte, Nat.reduceLT, Int.reduceToNat, Int.reduceLE, Int.reduceEq, Int.reduceLT, Nat.reduceEqDiff, Nat.reduceAdd, zDk, hbs, hd, t0, g4, k2, w5, q5]
        refine CW_cond true (by rfl) (fun _ => CW_region ?_) (fun h => by cases h)
        simp only [zZ, reduceIte, Nat.reduceLT, Int.reduceToNat, Int.reduceLE, Int.reduceEq, Int.reduceLT, Nat.reduceEqDiff, Nat.reduceAdd, zDk]
        refine ⟨[2, 5], ?_⟩
        simp only [zZ, reduceIte, Nat.reduceLT, Int.reduceToNat, Int.reduceLE, Int.reduceEq, Int.reduceLT, Nat.reduceEqDiff, Nat.reduceAdd, keepF]
        exact ⟨_, Thin.refl _, rfl⟩
      rintro f M9 ⟨rfl, e9⟩; subst e9
      obtain ⟨gs, ms⟩ := fin M9 noHead noHead _ (.slice none 0 0) g22 mo2
      refine CW_seq (CW_seq (CW_region ?_))
      simp only [zZ, reduceIte, Nat.reduceLT, Int.reduceToNat, Int.reduceLE, Int.reduceEq, Int.reduceLT, Nat.reduceEqDiff, Nat.reduceAdd, zDk, n2]
      refine CW_cond true (by rfl) (fun _ => CW_seq (CW_region ?_)) (fun h => by cases h)
      simp only [zZ, reduceIte, Nat.reduceLT, Int.reduceToNat, Int.reduceLE, Int.reduceEq, Int.reduceLT, Nat.reduceEqDiff, Nat.reduceAdd, zDk, hbd0, g22, agg8, put8]
      refine CW_ret ?_
      simp only [zZ, reduceIte, Nat.reduceLT, Int.reduceToNat, Int.reduceLE, Int.reduceEq, Int.reduceLT, Nat.reduceEqDiff, Nat.reduceAdd, zDk, mEnd, sAnswer, sAnswer.sRes, aLoad_g, gs, row8]
      exact ⟨_, Thin.refl _, TakeR.bad (.inr (.inr (by rw [← hT]; exact hne))) ms⟩
  · rw [← hT] at e
    have t0 : ((2 : Int) == 0) = false := rfl
    have n2 : ((2 : Int) != 0) = true := rfl
    rw [e]
    refine MW_mid (fun f M' => f = [(2, .pointer (some ⟨b2, 0, none⟩)), (5, .int .i64 2)] ∧ M' = M2) ?_ ?_
    · refine CW_seq (CW_region ?_)
      simp only [zZ, reduceIte, Nat.reduceLT, Int.reduceToNat, Int.reduceLE, Int.reduceEq, Int.reduceLT, Nat.reduceEqDiff, Nat.reduceAdd, zDk, t0]
      refine CW_cond false (by rfl) (fun h => by cases h) (fun _ => CW_skip ?_)
      refine ⟨[2, 5], ?_⟩
      simp only [zZ, reduceIte, Nat.reduceLT, Int.reduceToNat, Int.reduceLE, Int.reduceEq, Int.reduceLT, Nat.reduceEqDiff, Nat.reduceAdd, keepF]
      exact ⟨_, Thin.refl _, rfl⟩
    rintro f M9 ⟨rfl, e9⟩; subst e9
    obtain ⟨gs, ms⟩ := fin M9 noHead noHead _ (.slice none 0 0) g22 mo2
    refine CW_seq (CW_seq (CW_region ?_))
    simp only [zZ, reduceIte, Nat.reduceLT, Int.reduceToNat, Int.reduceLE, Int.reduceEq, Int.reduceLT, Nat.reduceEqDiff, Nat.reduceAdd, zDk, n2]
    refine CW_cond true (by rfl) (fun _ => CW_seq (CW_region ?_)) (fun h => by cases h)
    simp only [zZ, reduceIte, Nat.reduceLT, Int.reduceToNat, Int.reduceLE, Int.reduceEq, Int.reduceLT, Nat.reduceEqDiff, Nat.reduceAdd, zDk, hbd0, g22, agg8, put8]
    refine CW_ret ?_
    simp only [zZ, reduceIte, Nat.reduceLT, Int.reduceToNat, Int.reduceLE, Int.reduceEq, Int.reduceLT, Nat.reduceEqDiff, Nat.reduceAdd, zDk, mEnd, sAnswer, sAnswer.sRes, aLoad_g, gs, row8]
    exact ⟨_, Thin.refl _, TakeR.bad (.inr (.inl (by rw [← hT, e]; decide))) ms⟩
end Go.Proofs.YtkifimkcmfglmaaGreatDoor
namespace Go.Proofs.YtkifimkcmfglmaaGreatDoor
open Go.RowKit Abs
theorem may_check (h : Header) : h.may = decide (h.check = 0) := rfl
set_option maxRecDepth 100000 in
set_option maxHeartbeats 8000000 in
theorem rhput_spec (h : Header) (M : Mem) : Abs.Spec Tryz.prog 17 [.agg h.cells.toArray] M fun u M' => u = .tuple #[.string (putT h), .int .i64 h.check] ∧ More M M' := by
  have bx : nBox Tryz.prog 23 (.agg h.cells.toArray) = some (.cells false (aStride Tryz.prog 23) h.cells) := bx_Hdr _ rfl
  generalize aStride Tryz.prog 23 = s1 at bx
  have rowH : rowIn 7 0 (some (.cells false s1 h.cells)) = some (.agg h.cells.toArray) := rfl
  have k6 : cellIn 6 (some (.cells false s1 h.cells)) = some (.string h.tag) := rfl
  obtain ⟨M1, hM1⟩ : ∃ M1, M1 = M.push (.cells false s1 h.cells) := ⟨_, rfl⟩
  have mo : More M M1 := by rw [hM1]; exact More.push _ _
  have g1 : M1.get M.size = some (.cells false s1 h.cells) := by rw [hM1, Mem.get_push_new]
  have hm := rmay_at h M1
  refine Abs.Spec.walkM Tryz.func17 (by rfl) _ Tryz.results17 _ Tryz.ntmps17 (by simp) ?_
  intro _ _ _
  refine CW_seq (CW_region ?_)
  simp only [zZ, reduceIte, Nat.reduceLT, Int.reduceToNat, Int.reduceLE, Int.reduceEq, Int.reduceLT, Nat.reduceEqDiff, Nat.reduceAdd, zDk, bx]
  rw [← hM1]
  rcases check_01 h with e | e
  · have hp : putT h = str (headText h) := by unfold putT; rw [if_pos e]
    have hok := h.check_zero.1 e
    have hcat : bsize h.fields + bsize h.tag ≤ 4611686018427387904 := by
      have h1 := h.fields_size
      obtain ⟨_, _, a, b, c, _⟩ := hok
      show h.fields.size + h.tag.size ≤ _
      omega
    have hcat2 : bcat h.fields h.tag = str (headText h) := rfl
    rw [may_check, e] at hm
    have hm : Abs.Spec Tryz.prog 37 [.agg h.cells.toArray] M1 fun u M => u = .bool true ∧ M = M1 := hm
    refine CW_seq (CW_seq (CW_region ?_))
    simp only [zZ, reduceIte, Nat.reduceLT, Int.reduceToNat, Int.reduceLE, Int.reduceEq, Int.reduceLT, Nat.reduceEqDiff, Nat.reduceAdd, zDk, g1, rowH]
    refine ⟨by kernel_rfl, _, hm, ?_⟩
    rintro _ M9 ⟨rfl, e9⟩; replace e9 := e9.symm; subst e9
    simp only [zZ, reduceIte, Nat.reduceLT, Int.reduceToNat, Int.reduceLE, Int.reduceEq, Int.reduceLT, Nat.reduceEqDiff, Nat.reduceAdd, zDk]
    refine CW_cond false (by rfl) (fun h => by cases h) (fun _ => CW_skip ?_)
    simp only [zZ, reduceIte, Nat.reduceLT, Int.reduceToNat, Int.reduceLE, Int.reduceEq, Int.reduceLT, Nat.reduceEqDiff, Nat.reduceAdd, zDk]
    refine CW_seq (CW_draw hmix 4 (by kernel_rfl) (by kernel_rfl) ?_)
    simp only [zZ, reduceIte, Nat.reduceLT, Int.reduceToNat, Int.reduceLE, Int.reduceEq, Int.reduceLT, Nat.reduceEqDiff, Nat.reduceAdd, zDk, g1, rowH, k6]
    refine ⟨by kernel_rfl, _, rfields_at h hok M1, ?_⟩
    simp only [zZ, reduceIte, Nat.reduceLT, Int.reduceToNat, Int.reduceLE, Int.reduceEq, Int.reduceLT, Nat.reduceEqDiff, Nat.reduceAdd, zDk, g1, rowH, k6]
    refine ⟨hcat, ?_⟩
    simp only [zZ, reduceIte, Nat.reduceLT, Int.reduceToNat, Int.reduceLE, Int.reduceEq, Int.reduceLT, Nat.reduceEqDiff, Nat.reduceAdd, zDk, hcat2]
    refine CW_ret ?_
    simp only [zZ, reduceIte, Nat.reduceLT, Int.reduceToNat, Int.reduceLE, Int.reduceEq, Int.reduceLT, Nat.reduceEqDiff, Nat.reduceAdd, zDk, mEnd, sAnswer, sAnswer.sRes]
    exact ⟨_, Thin.refl _, by rw [hp, e], mo⟩
  · have hp : putT h = ⟨#[]⟩ := by unfold putT; rw [if_neg (by rw [e]; decide)]
    rw [may_check, e] at hm
    have hm : Abs.Spec Tryz.prog 37 [.agg h.cells.toArray] M1 fun u M => u = .bool false ∧ M = M1 := hm
    refine CW_seq (CW_seq (CW_region ?_))
    simp only [zZ, reduceIte, Nat.reduceLT, Int.reduceToNat, Int.reduceLE, Int.reduceEq, Int.reduceLT, Nat.reduceEqDiff, Nat.reduceAdd, zDk, g1, rowH]
    refine ⟨by kernel_rfl, _, hm, ?_⟩
    rintro _ M9 ⟨rfl, e9⟩; replace e9 := e9.symm; subst e9
    simp only [zZ, reduceIte, Nat.reduceLT, Int.reduceToNat, Int.reduceLE, Int.reduceEq, Int.reduceLT, Nat.reduceEqDiff, Nat.reduceAdd, zDk]
    refine CW_cond true (by rfl) (fun _ => CW_seq (CW_region ?_)) (fun h => by cases h)
    simp only [zZ, reduceIte, Nat.reduceLT, Int.reduceToNat, Int.reduceLE, Int.reduceEq, Int.reduceLT, Nat.reduceEqDiff, Nat.reduceAdd, zDk]
    refine CW_ret ?_
    simp only [zZ, reduceIte, Nat.reduceLT, Int.reduceToNat, Int.reduceLE, Int.reduceEq, Int.reduceLT, Nat.reduceEqDiff, Nat.reduceAdd, zDk, mEnd, sAnswer, sAnswer.sRes]
    exact ⟨_, Thin.refl _, by rw [hp, e], mo⟩
theorem flatB_take {xs : List ByteArray} {i : Nat} {x : ByteArray} (hx : xs[i]? = some x) : flatB (xs.take i) ++ x.data.toList = flatB (xs.take (i + 1)) := by
  unfold flatB
  rw [List.take_add_one, hx, List.flatMap_append]
  simp
theorem sizes_take {xs : List ByteArray} (h : sizesB xs = true) (i : Nat) : sizesB (xs.take i) = true := by
  unfold sizesB at h ⊢
  rw [List.all_eq_true] at h ⊢
  exact fun x hx => h x (List.mem_of_mem_take hx)
theorem bcat_any (a : List UInt8) (x : ByteArray) : bcat (str a) x = str (a ++ x.data.toList) := rfl
set_option maxRecDepth 100000 in
set_option maxHeartbeats 8000000 in
theorem rput_spec (h : Header) (xs : List ByteArray) (hl : xs.length ≤ 1000) (M : Mem) (V : Value) (hr : BlR M V xs) :
    Abs.Spec Tryz.prog 7 [.agg (archC h V)] M fun u M' => u = .tuple #[.string (str (putA h xs).1), .int .i64 (putA h xs).2] ∧ More M M' := by
  obtain ⟨p, c, rfl⟩ := hr.len
  have bx := bx_arch
  generalize aStride Tryz.prog 26 = s3 at bx
  have k7 : ∀ (s : Nat) (h : Header) V, cellIn 7 (some (.cells false s (archC h V).toList)) = some V := fun _ _ _ => rfl
  have row7 : ∀ (s : Nat) (h : Header) V, rowIn 7 0 (some (.cells false s (archC h V).toList)) = some (.agg h.cells.toArray) := fun _ _ _ => rfl
  have row8 : ∀ (s : Nat) (h : Header) V, rowIn 8 0 (some (.cells false s (archC h V).toList)) = some (.agg (archC h V)) := fun _ _ _ => rfl
  obtain ⟨M1, hM1⟩ : ∃ M1, M1 = M.push (.cells false s3 (archC h (.slice p xs.length c)).toList) := ⟨_, rfl⟩
  have mo : More M M1 := by rw [hM1]; exact More.push _ _
  have g1 : M1.get M.size = some (.cells false s3 (archC h (.slice p xs.length c)).toList) := by rw [hM1, Mem.get_push_new]
  obtain ⟨b1, hb1⟩ : ∃ b, b = M.size := ⟨_, rfl⟩
  have h1 := hr.same mo.get
  refine Abs.Spec.walkM Tryz.func7 (by rfl) _ Tryz.results7 _ Tryz.ntmps7 (by simp) ?_
  intro _ _ _
  refine CW_seq (CW_region ?_)
  simp only [zZ, reduceIte, Nat.reduceLT, Int.reduceToNat, Int.reduceLE, Int.reduceEq, Int.reduceLT, Nat.reduceEqDiff, Nat.reduceAdd, zDk, bx]
  rw [← hM1]
  rw [← hb1] at g1 ⊢
  refine CW_seq (CW_region ?_)
  simp only [zZ, reduceIte, Nat.reduceLT, Int.reduceToNat, Int.reduceLE, Int.reduceEq, Int.reduceLT, Nat.reduceEqDiff, Nat.reduceAdd, zDk, g1, row7]
  refine ⟨by kernel_rfl, _, rhput_spec h M1, ?_⟩
  rintro _ M2 ⟨rfl, mo2⟩
  simp only [zZ, reduceIte, Nat.reduceLT, Int.reduceToNat, Int.reduceLE, Int.reduceEq, Int.reduceLT, Nat.reduceEqDiff, Nat.reduceAdd, zDk]
  have g2 := mo2.get _ _ g1
  have h2 := h1.same mo2.get
  rcases check_01 h with e | e
  · have hp : putT h = str (headText h) := by unfold putT; rw [if_pos e]
    have n0 : ((0 : Int) != 0) = false := rfl
    rw [e, hp]
    have ea : putA h xs = if shapeB h xs = true then (headText h ++ flatB xs, 0) else ([], 2) := if_pos e
    have hsp := rshape_spec h xs hl M2 _ h2
    refine CW_seq (CW_seq (CW_region ?_))
    simp only [zZ, reduceIte, Nat.reduceLT, Int.reduceToNat, Int.reduceLE, Int.reduceEq, Int.reduceLT, Nat.reduceEqDiff, Nat.reduceAdd, zDk, n0]
    refine CW_cond false (by rfl) (fun h => by cases h) (fun _ => CW_skip ?_)
    simp only [zZ, reduceIte, Nat.reduceLT, Int.reduceToNat, Int.reduceLE, Int.reduceEq, Int.reduceLT, Nat.reduceEqDiff, Nat.reduceAdd, zDk]
    rcases hsh : shapeB h xs with _ | _
    · rw [hsh] at ea hsp
      rw [if_neg (by decide)] at ea
      refine CW_seq (CW_seq (CW_region ?_))
      simp only [zZ, reduceIte, Nat.reduceLT, Int.reduceToNat, Int.reduceLE, Int.reduceEq, Int.reduceLT, Nat.reduceEqDiff, Nat.reduceAdd, zDk, g2, row8]
      refine ⟨by kernel_rfl, _, hsp, ?_⟩
      rintro _ M3 ⟨rfl, mo3⟩
      simp only [zZ, reduceIte, Nat.reduceLT, Int.reduceToNat, Int.reduceLE, Int.reduceEq, Int.reduceLT, Nat.reduceEqDiff, Nat.reduceAdd, zDk]
      refine CW_cond true (by rfl) (fun _ => CW_seq (CW_region ?_)) (fun h => by cases h)
      simp only [zZ, reduceIte, Nat.reduceLT, Int.reduceToNat, Int.reduceLE, Int.reduceEq, Int.reduceLT, Nat.reduceEqDiff, Nat.reduceAdd, zDk]
      refine CW_ret ?_
      simp only [zZ, reduceIte, Nat.reduceLT, Int.reduceToNat, Int.reduceLE, Int.reduceEq, Int.reduceLT, Nat.reduceEqDiff, Nat.reduceAdd, zDk, mEnd, sAnswer, sAnswer.sRes]
      exact ⟨_, Thin.refl _, by rw [ea]; rfl, (mo.trans mo2).trans mo3⟩
    · rw [hsh] at ea hsp
      rw [if_pos rfl] at ea
      have hsz : sizesB xs = true := by unfold shapeB at hsh; rw [Bool.and_eq_true] at hsh; exact hsh.2
      have hln := headText_len (h.check_zero.1 e)
      refine CW_seq (CW_seq (CW_region ?_))
      simp only [zZ, reduceIte, Nat.reduceLT, Int.reduceToNat, Int.reduceLE, Int.reduceEq, Int.reduceLT, Nat.reduceEqDiff, Nat.reduceAdd, zDk, g2, row8]
      refine ⟨by kernel_rfl, _, hsp, ?_⟩
      rintro _ M3 ⟨rfl, mo3⟩
      have g3 := mo3.get _ _ g2
      have h3 := h2.same mo3.get
      simp only [zZ, reduceIte, Nat.reduceLT, Int.reduceToNat, Int.reduceLE, Int.reduceEq, Int.reduceLT, Nat.reduceEqDiff, Nat.reduceAdd, zDk]
      refine CW_cond false (by rfl) (fun h => by cases h) (fun _ => CW_skip ?_)
      simp only [zZ, reduceIte, Nat.reduceLT, Int.reduceToNat, Int.reduceLE, Int.reduceEq, Int.reduceLT, Nat.reduceEqDiff, Nat.reduceAdd, zDk]
      refine MW_mid (fun f M' => f = [(4, .string (str (headText h ++ flatB xs)))] ∧ M' = M3) ?_ ?_
      · refine CW_seq (CW_region ?_)
        simp only [zZ, reduceIte, Nat.reduceLT, Int.reduceToNat, Int.reduceLE, Int.reduceEq, Int.reduceLT, Nat.reduceEqDiff, Nat.reduceAdd, zDk]
        refine CW_block (MW_loop (fun j f M' => ∃ i : Nat, j = xs.length - i ∧ f = [(1, .pointer (some ⟨b1, 0, none⟩)), (4, .string (str (headText h ++ flatB (xs.take i)))), (6, .int .i64 (i : Nat))] ∧ i ≤ xs.length ∧ M' = M3) xs.length ?_ ?_)
        · refine ⟨[1, 4, 6], ?_⟩
          simp only [zZ, reduceIte, Nat.reduceLT, Int.reduceToNat, Int.reduceLE, Int.reduceEq, Int.reduceLT, Nat.reduceEqDiff, Nat.reduceAdd, keepF]
          exact ⟨M3, Thin.refl _, 0, rfl, by rw [List.take_zero]; simp [flatB], by omega, rfl⟩
        · rintro j f M' ⟨i, rfl, rfl, hi, rfl⟩
          refine CW_seq (CW_seq (CW_region ?_))
          simp only [zZ, reduceIte, Nat.reduceLT, Int.reduceToNat, Int.reduceLE, Int.reduceEq, Int.reduceLT, Nat.reduceEqDiff, Nat.reduceAdd, zDk, g3, k7]
          refine CW_cond (decide ((i : Int) < (xs.length : Int))) (by rfl) (fun hq => CW_skip ?_) (fun hq => CW_exit ?_)
          · have hq' := of_decide_eq_true hq
            obtain ⟨x, hx⟩ : ∃ x, xs[i]? = some x := ⟨_, List.getElem?_eq_getElem (by omega)⟩
            obtain ⟨g, ro, rfl, gx, c2⟩ := h3.cell hx
            have z0 : (0 : Int) ≤ (i : Int) := by omega
            have w1 : IntKind.i64.wrap ((i : Int) + 1) = ((i + 1 : Nat) : Int) := by rw [wri (by omega) (by omega)]; omega
            have hxs : bsize x = 224 := of_decide_eq_true (List.all_eq_true.1 hsz x (List.mem_of_getElem? hx))
            have hfl := flatB_len (xs.take i) (sizes_take hsz i)
            have hcat : bsize (str (headText h ++ flatB (xs.take i))) + bsize x ≤ 4611686018427387904 := by
              have e1 : bsize (str (headText h ++ flatB (xs.take i))) = (headText h ++ flatB (xs.take i)).length := rfl
              rw [e1, hxs, List.length_append, hln, hfl, List.length_take]; omega
            have hcb : bcat (str (headText h ++ flatB (xs.take i))) x = str (headText h ++ flatB (xs.take (i + 1))) := by rw [bcat_any, List.append_assoc, flatB_take hx]
            simp only [zZ, reduceIte, Nat.reduceLT, Int.reduceToNat, Int.reduceLE, Int.reduceEq, Int.reduceLT, Nat.reduceEqDiff, Nat.reduceAdd, zDk]
            refine CW_seq (CW_block (CW_region ?_))
            simp only [zZ, reduceIte, Nat.reduceLT, Int.reduceToNat, Int.reduceLE, Int.reduceEq, Int.reduceLT, Nat.reduceEqDiff, Nat.reduceAdd, zDk, z0, hq', and_self, g3, k7, gx, Int.toNat_natCast, c2]
            refine ⟨hcat, ?_⟩
            simp only [zZ, reduceIte, Nat.reduceLT, Int.reduceToNat, Int.reduceLE, Int.reduceEq, Int.reduceLT, Nat.reduceEqDiff, Nat.reduceAdd, zDk, hcb]
            refine CW_region ?_
            simp only [zZ, reduceIte, Nat.reduceLT, Int.reduceToNat, Int.reduceLE, Int.reduceEq, Int.reduceLT, Nat.reduceEqDiff, Nat.reduceAdd, zDk, w1]
            refine ⟨[1, 4, 6], ?_⟩
            simp only [zZ, reduceIte, Nat.reduceLT, Int.reduceToNat, Int.reduceLE, Int.reduceEq, Int.reduceLT, Nat.reduceEqDiff, Nat.reduceAdd, keepF]
            exact ⟨_, Thin.refl _, xs.length - (i + 1), ⟨i + 1, rfl, rfl, by omega, rfl⟩, by omega⟩
          · have hq' := of_decide_eq_false hq
            obtain rfl : i = xs.length := by omega
            rw [List.take_length]
            simp only [zZ, reduceIte, Nat.reduceLT, Int.reduceToNat, Int.reduceLE, Int.reduceEq, Int.reduceLT, Nat.reduceEqDiff, Nat.reduceAdd, zDk]
            refine ⟨[4], ?_⟩
            simp only [zZ, reduceIte, Nat.reduceLT, Int.reduceToNat, Int.reduceLE, Int.reduceEq, Int.reduceLT, Nat.reduceEqDiff, Nat.reduceAdd, keepF]
            exact ⟨_, Thin.refl _, rfl⟩
      · rintro f M4 ⟨rfl, rfl⟩
        refine CW_seq (CW_region ?_)
        simp only [zZ, reduceIte, Nat.reduceLT, Int.reduceToNat, Int.reduceLE, Int.reduceEq, Int.reduceLT, Nat.reduceEqDiff, Nat.reduceAdd, zDk]
        refine CW_ret ?_
        simp only [zZ, reduceIte, Nat.reduceLT, Int.reduceToNat, Int.reduceLE, Int.reduceEq, Int.reduceLT, Nat.reduceEqDiff, Nat.reduceAdd, zDk, mEnd, sAnswer, sAnswer.sRes]
        exact ⟨_, Thin.refl _, by rw [ea], (mo.trans mo2).trans mo3⟩
  · have hp : putT h = ⟨#[]⟩ := by unfold putT; rw [if_neg (by rw [e]; decide)]
    have n1 : ((1 : Int) != 0) = true := rfl
    have ea : putA h xs = ([], 1) := by unfold putA; rw [if_neg (by rw [e]; decide)]
    rw [e, hp]
    refine CW_seq (CW_seq (CW_region ?_))
    simp only [zZ, reduceIte, Nat.reduceLT, Int.reduceToNat, Int.reduceLE, Int.reduceEq, Int.reduceLT, Nat.reduceEqDiff, Nat.reduceAdd, zDk, n1]
    refine CW_cond true (by rfl) (fun _ => CW_seq (CW_region ?_)) (fun h => by cases h)
    simp only [zZ, reduceIte, Nat.reduceLT, Int.reduceToNat, Int.reduceLE, Int.reduceEq, Int.reduceLT, Nat.reduceEqDiff, Nat.reduceAdd, zDk]
    refine CW_ret ?_
    simp only [zZ, reduceIte, Nat.reduceLT, Int.reduceToNat, Int.reduceLE, Int.reduceEq, Int.reduceLT, Nat.reduceEqDiff, Nat.reduceAdd, zDk, mEnd, sAnswer, sAnswer.sRes]
    exact ⟨_, Thin.refl _, by rw [ea]; rfl, mo.trans mo2⟩
set_option maxRecDepth 100000 in
set_option maxHeartbeats 16000000 in
theorem rtake_spec (s : List UInt8) (hs : s.length ≤ 1000000) (M : Mem) : Abs.Spec Tryz.prog 9 [.string (str s)] M fun u M' => TakeR s M u M' := by
  have halA : nAlloc Tryz.prog 26 = some (.cells false (aStride Tryz.prog 26) (archC noHead (.slice none 0 0)).toList) := al_Arc
  generalize aStride Tryz.prog 26 = s3 at halA
  have halH : nAlloc Tryz.prog 23 = some (.cells false (aStride Tryz.prog 23) noHead.cells) := al_Hdr
  generalize aStride Tryz.prog 23 = s1 at halH
  have hbd0 : aBuild Tryz.prog 26 [] = some (.agg (archC noHead (.slice none 0 0))) := by kernel_rfl
  have hbd : ∀ (h : Header), aBuild Tryz.prog 26 [(0, .agg h.cells.toArray)] = some (.agg (archC h (.slice none 0 0))) := fun h => by kernel_rfl
  have row8 : ∀ (s : Nat) (h : Header) V, rowIn 8 0 (some (.cells false s (archC h V).toList)) = some (.agg (archC h V)) := fun _ _ _ => rfl
  have rowH : ∀ (s : Nat) (h : Header), rowIn 7 0 (some (.cells false s h.cells)) = some (.agg h.cells.toArray) := fun _ _ => rfl
  have agg8 : ∀ h V, (Value.agg (archC h V)).cells.toList = (archC h V).toList := fun _ _ => rfl
  have aggH : ∀ h : Header, (Value.agg h.cells.toArray).cells.toList = h.cells := fun _ => rfl
  have put8 : ∀ (M0 : Mem) (b : Nat) (h h' : Header) (V : Value) (a : Option Addr) (n c : Nat), putIn 8 M0 b 0 (archC h' (.slice a n c)).toList (some (.cells false s3 (archC h V).toList)) = some (M0.set b (some (.cells false s3 (archC h' (.slice a n c)).toList))) := fun _ _ _ _ _ _ _ _ => rfl
  have putH : ∀ (M0 : Mem) (b : Nat) (h h' : Header), putIn 7 M0 b 0 h'.cells (some (.cells false s1 h.cells)) = some (M0.set b (some (.cells false s1 h'.cells))) := fun _ _ _ _ => rfl
  have k2 : ∀ (h : Header), cellIn 2 (some (.cells false s1 h.cells)) = some (.int .i64 h.n) := fun _ => rfl
  have k7 : ∀ (h : Header) V, cellIn 7 (some (.cells false s3 (archC h V).toList)) = some V := fun _ _ => rfl
  have put7 : ∀ (M0 : Mem) (b : Nat) (h : Header) (V : Value) (a : Option Addr) (n c : Nat), putIn 1 M0 b 7 [.slice a n c] (some (.cells false s3 (archC h V).toList)) = some (M0.set b (some (.cells false s3 (archC h (.slice a n c)).toList))) := fun _ _ _ _ _ _ _ => rfl
  have clS : ∀ (a : Option Addr) (n c : Nat), (Value.slice a n c).cells.toList = [.slice a n c] := fun _ _ _ => rfl
  have hbs : ∀ l : List UInt8, bsize (str l) = l.length := fun _ => rfl
  obtain ⟨b2, hb2⟩ : ∃ b, b = M.size := ⟨_, rfl⟩
  obtain ⟨M1, hM1⟩ : ∃ M1, M1 = M.push (.cells false s3 (archC noHead (.slice none 0 0)).toList) := ⟨_, rfl⟩
  have mo1 : More M M1 := by rw [hM1]; exact More.push _ _
  have g2 : M1.get b2 = some (.cells false s3 (archC noHead (.slice none 0 0)).toList) := by rw [hM1, hb2, Mem.get_push_new]
  have z1 : M1.size = M.size + 1 := by rw [hM1, Mem.size_push]
  have fin : ∀ (M' : Mem) (h h' : Header) (V V' : Value), M'.get b2 = some (.cells false s3 (archC h V).toList) → More M M' → (M'.set b2 (some (.cells false s3 (archC h' V').toList))).get b2 = some (.cells false s3 (archC h' V').toList) ∧ More M (M'.set b2 (some (.cells false s3 (archC h' V').toList))) := fun M' h h' V V' hg hm =>
    ⟨Mem.get_set_same hg _, fun b z hb => by
      have := Mem.get_lt hb
      rw [Mem.get_set_ne (by omega)]; exact hm.get b z hb, by rw [Mem.size_set]; exact hm.size⟩
  refine Abs.Spec.walkM Tryz.func9 (by rfl) _ Tryz.results9 _ Tryz.ntmps9 (by simp) ?_
  intro _ _ _
  refine CW_seq (CW_region ?_)
  simp only [zZ, reduceIte, Nat.reduceLT, Int.reduceToNat, Int.reduceLE, Int.reduceEq, Int.reduceLT, Nat.reduceEqDiff, Nat.reduceAdd, zDk, halA]
  rw [← hM1, ← hb2]
  by_cases hlt : s.length < 98
  · have q1 : decide (((s.length : Nat) : Int) < 98) = true := decide_eq_true (by omega)
    obtain ⟨gs, ms⟩ := fin M1 noHead noHead _ (.slice none 0 0) g2 mo1
    refine CW_seq (CW_seq (CW_region ?_))
    simp only [zZ, reduceIte, Nat.reduceLT, Int.reduceToNat, Int.reduceLE, Int.reduceEq, Int.reduceLT, Nat.reduceEqDiff, Nat.reduceAdd, zDk, hbs, q1]
    refine CW_cond true (by rfl) (fun _ => CW_seq (CW_region ?_)) (fun h => by cases h)
    simp only [zZ, reduceIte, Nat.reduceLT, Int.reduceToNat, Int.reduceLE, Int.reduceEq, Int.reduceLT, Nat.reduceEqDiff, Nat.reduceAdd, zDk, hbd0, g2, agg8, put8]
    refine CW_ret ?_
    simp only [zZ, reduceIte, Nat.reduceLT, Int.reduceToNat, Int.reduceLE, Int.reduceEq, Int.reduceLT, Nat.reduceEqDiff, Nat.reduceAdd, zDk, mEnd, sAnswer, sAnswer.sRes, aLoad_g, gs, row8]
    exact ⟨_, Thin.refl _, TakeR.bad (.inl hlt) ms⟩
  have q1 : decide (((s.length : Nat) : Int) < 98) = false := decide_eq_false (by omega)
  refine CW_seq (CW_seq (CW_region ?_))
  simp only [zZ, reduceIte, Nat.reduceLT, Int.reduceToNat, Int.reduceLE, Int.reduceEq, Int.reduceLT, Nat.reduceEqDiff, Nat.reduceAdd, zDk, hbs, q1]
  refine CW_cond false (by rfl) (fun h => by cases h) (fun _ => CW_skip ?_)
  simp only [zZ, reduceIte, Nat.reduceLT, Int.reduceToNat, Int.reduceLE, Int.reduceEq, Int.reduceLT, Nat.reduceEqDiff, Nat.reduceAdd, zDk]
  have sl := fun get => slice_to get (str s) 98 (by rw [str_size]; omega)
  rw [show (str s).data.toList = s from rfl] at sl
  have sl : ∀ get, gSlice Tryz.prog get 9 (.string (str s)) none (some (.int .i64 98)) = some (.string (str (s.take 98))) := sl
  obtain ⟨T, hT⟩ : ∃ T, T = hdrT (str (s.take 98)) := ⟨_, rfl⟩
  refine CW_seq (CW_region ?_)
  simp only [zZ, reduceIte, Nat.reduceLT, Int.reduceToNat, Int.reduceLE, Int.reduceEq, Int.reduceLT, Nat.reduceEqDiff, Nat.reduceAdd, zDk, sl]
  refine ⟨by kernel_rfl, _, rhtake_spec (s.take 98) (by rw [List.length_take]; omega) M1, ?_⟩
  rintro _ M1b ⟨rfl, mo1b⟩
  have g2 := mo1b.get _ _ g2
  have mo1 := mo1.trans mo1b
  obtain ⟨b4, hb4⟩ : ∃ b, b = M1b.size := ⟨_, rfl⟩
  obtain ⟨M2, hM2⟩ : ∃ M2, M2 = (M1b.push (.cells false s1 noHead.cells)).set M1b.size (some (.cells false s1 T.1.cells)) := ⟨_, rfl⟩
  have g4 : M2.get b4 = some (.cells false s1 T.1.cells) := by rw [hM2, hb4]; exact Mem.get_set_same (Mem.get_push_new _ _) _
  have mo12 : More M1b M2 := ⟨fun b x hb => by have := Mem.get_lt hb; rw [hM2, Mem.get_set_ne (by omega), Mem.get_push_old this]; exact hb, by rw [hM2, Mem.size_set, Mem.size_push]; omega⟩
  have mo2 := mo1.trans mo12
  have g22 := mo12.get _ _ g2
  unfold hdrTV
  rw [← hT]
  simp only [zZ, reduceIte, Nat.reduceLT, Int.reduceToNat, Int.reduceLE, Int.reduceEq, Int.reduceLT, Nat.reduceEqDiff, Nat.reduceAdd, zDk, halH, Mem.get_push_new, aggH, putH]
  rw [← hM2, ← hb4]
  rcases hdrT_two (str (s.take 98)) with e | e
  · rw [← hT] at e
    have hok := (hdrT_back (s.take 98) (by rw [← hT]; exact e)).2.1
    rw [← hT] at hok
    obtain ⟨hn0, hn1⟩ := okP_n hok
    obtain ⟨n, hn⟩ : ∃ n : Nat, T.1.n = (n : Int) := ⟨T.1.n.toNat, by omega⟩
    have t0 : ((0 : Int) != 0) = false := rfl
    have w5 : IntKind.i64.wrap (224 * T.1.n) = 224 * T.1.n := wri (by omega) (by omega)
    have w6 : IntKind.i64.wrap (98 + 224 * T.1.n) = 98 + 224 * T.1.n := wri (by omega) (by omega)
    rw [e]
    by_cases hne : (s.length : Int) = 98 + 224 * T.1.n
    · have q5 : (((s.length : Nat) : Int) != 98 + 224 * T.1.n) = false := by rw [← hne]; simp
      refine CW_seq (CW_seq (CW_region ?_))
      simp only [zZ, reduceIte, Nat.reduceLT, Int.reduceToNat, Int.reduceLE, Int.reduceEq, Int.reduceLT, Nat.reduceEqDiff, Nat.reduceAdd, zDk, hbs, t0, g4, k2, w5, w6, q5]
      refine CW_cond false (by rfl) (fun h => by cases h) (fun _ => CW_skip ?_)
      simp only [zZ, reduceIte, Nat.reduceLT, Int.reduceToNat, Int.reduceLE, Int.reduceEq, Int.reduceLT, Nat.reduceEqDiff, Nat.reduceAdd, zDk]
      obtain ⟨b6, hb6⟩ : ∃ b, b = M2.size := ⟨_, rfl⟩
      obtain ⟨M3, hM3⟩ : ∃ M3, M3 = (M2.push (.cells false s3 (archC noHead (.slice none 0 0)).toList)).set M2.size (some (.cells false s3 (archC T.1 (.slice none 0 0)).toList)) := ⟨_, rfl⟩
      have g6 : M3.get b6 = some (.cells false s3 (archC T.1 (.slice none 0 0)).toList) := by rw [hM3, hb6]; exact Mem.get_set_same (Mem.get_push_new _ _) _
      have mo23 : More M2 M3 := ⟨fun b x hb => by have := Mem.get_lt hb; rw [hM3, Mem.get_set_ne (by omega), Mem.get_push_old this]; exact hb, by rw [hM3, Mem.size_set, Mem.size_push]; omega⟩
      have z3 : M3.size = M2.size + 1 := by rw [hM3, Mem.size_set, Mem.size_push]
      have mo3 := mo2.trans mo23
      have g23 := mo23.get _ _ g22
      have g43 := mo23.get _ _ g4
      have hlen : s.length = 98 + 224 * n := by omega
      refine CW_seq (CW_region ?_)
      simp only [zZ, reduceIte, Nat.reduceLT, Int.reduceToNat, Int.reduceLE, Int.reduceEq, Int.reduceLT, Nat.reduceEqDiff, Nat.reduceAdd, zDk, g4, rowH, hbd, halA, Mem.get_push_new, agg8, put8]
      rw [← hM3, ← hb6]
      refine MW_mid (fun f M' => f = [(2, .pointer (some ⟨b2, 0, none⟩)), (6, .pointer (some ⟨b6, 0, none⟩))] ∧ ∃ V, M'.get b6 = some (.cells false s3 (archC T.1 V).toList) ∧ M'.get b2 = some (.cells false s3 (archC noHead (.slice none 0 0)).toList) ∧ BlOwn M3.size M' V (blocksL s n) ∧ More M M') ?_ ?_
      · refine CW_seq (CW_region ?_)
        simp only [zZ, reduceIte, Nat.reduceLT, Int.reduceToNat, Int.reduceLE, Int.reduceEq, Int.reduceLT, Nat.reduceEqDiff, Nat.reduceAdd, zDk]
        refine CW_block (MW_loop (fun j f M' => ∃ (i : Nat) (V : Value), j = n - i ∧ f = [(0, .string (str s)), (2, .pointer (some ⟨b2, 0, none⟩)), (4, .pointer (some ⟨b4, 0, none⟩)), (6, .pointer (some ⟨b6, 0, none⟩)), (7, .int .i64 (i : Nat))] ∧ i ≤ n ∧
          M'.get b6 = some (.cells false s3 (archC T.1 V).toList) ∧ M'.get b2 = some (.cells false s3 (archC noHead (.slice none 0 0)).toList) ∧ M'.get b4 = some (.cells false s1 T.1.cells) ∧ BlOwn M3.size M' V (blocksL s i) ∧ More M M' ∧ M3.size ≤ M'.size) n ?_ ?_)
        · refine ⟨[0, 2, 4, 6, 7], ?_⟩
          simp only [zZ, reduceIte, Nat.reduceLT, Int.reduceToNat, Int.reduceLE, Int.reduceEq, Int.reduceLT, Nat.reduceEqDiff, Nat.reduceAdd, keepF]
          exact ⟨M3, Thin.refl _, 0, _, rfl, rfl, by omega, g6, g23, g43, OwnL.nil _ _, mo3, Nat.le_refl _⟩
        · rintro j f M' ⟨i, V, rfl, rfl, hi, h6, h2, h4, hown, hmo, hsz⟩
          refine CW_seq (CW_seq (CW_region ?_))
          simp only [zZ, reduceIte, Nat.reduceLT, Int.reduceToNat, Int.reduceLE, Int.reduceEq, Int.reduceLT, Nat.reduceEqDiff, Nat.reduceAdd, zDk, h4, k2, hn]
          refine CW_cond (decide ((i : Int) < (n : Int))) (by rfl) (fun hq => CW_skip ?_) (fun hq => CW_exit ?_)
          · have hin := of_decide_eq_true hq
            obtain ⟨pa, pc, rfl⟩ := hown.len
            rw [blocksL_len] at h6 hown
            have a1 : IntKind.i64.wrap (224 * (i : Int)) = ((224 * i : Nat) : Int) := by rw [wri (by omega) (by omega)]; omega
            have a2 : IntKind.i64.wrap (98 + ((224 * i : Nat) : Int)) = ((98 + 224 * i : Nat) : Int) := by rw [wri (by omega) (by omega)]; omega
            have a3 : IntKind.i64.wrap (((98 + 224 * i : Nat) : Int) + 224) = ((98 + 224 * i + 224 : Nat) : Int) := by rw [wri (by omega) (by omega)]; omega
            have w1 : IntKind.i64.wrap ((i : Int) + 1) = ((i + 1 : Nat) : Int) := by rw [wri (by omega) (by omega)]; omega
            have sl2 := fun get => slice_mid get s (98 + 224 * i) (98 + 224 * i + 224) (by omega) (by omega)
            have sl2 : ∀ get, gSlice Tryz.prog get 9 (.string (str s)) (some (.int .i64 (98 + 224 * i : Nat))) (some (.int .i64 (98 + 224 * i + 224 : Nat))) = some (.string (str (cutL s (98 + 224 * i) 224))) := fun get => by
              have := sl2 get
              rw [show 98 + 224 * i + 224 - (98 + 224 * i) = 224 by omega] at this
              exact this
            have nw := new_bl1 (str (cutL s (98 + 224 * i) 224))
            obtain ⟨M4, V4, ap4, hb4', hown4, hs4, hold4⟩ := blapp hown hsz (by rw [blocksL_len]; omega) (str (cutL s (98 + 224 * i) 224))
            rw [blocksL_succ] at hown4
            obtain ⟨pa4, pc4, rfl⟩ := hown4.len
            have hlv : ∀ b, blkOf (.slice pa i pc) = some b → M3.size ≤ b := fun b hb => (hown.live hb).1
            have l6 := Mem.get_lt g6
            have l2 := Mem.get_lt g23
            have l4 := Mem.get_lt g43
            have h64 := hold4 b6 _ (fun hb => by have := hlv b6 hb; omega) h6
            have h24 := hold4 b2 _ (fun hb => by have := hlv b2 hb; omega) h2
            have h44 := hold4 b4 _ (fun hb => by have := hlv b4 hb; omega) h4
            have lt2 := Mem.get_lt g22
            have lt4 := Mem.get_lt g4
            have hne62 : b6 ≠ b2 := by omega
            have hne64 : b6 ≠ b4 := by omega
            simp only [zZ, reduceIte, Nat.reduceLT, Int.reduceToNat, Int.reduceLE, Int.reduceEq, Int.reduceLT, Nat.reduceEqDiff, Nat.reduceAdd, zDk]
            refine CW_seq (CW_block (CW_seq (CW_region ?_)))
            simp only [zZ, reduceIte, Nat.reduceLT, Int.reduceToNat, Int.reduceLE, Int.reduceEq, Int.reduceLT, Nat.reduceEqDiff, Nat.reduceAdd, zDk, a1, a2]
            refine CW_all hmix (by kernel_rfl) ?_
            simp only [zZ, reduceIte, Nat.reduceLT, Int.reduceToNat, Int.reduceLE, Int.reduceEq, Int.reduceLT, Nat.reduceEqDiff, Nat.reduceAdd, zDk, h6, k7, a3, sl2, nw, ap4, h64, clS, put7]
            refine CW_region ?_
            simp only [zZ, reduceIte, Nat.reduceLT, Int.reduceToNat, Int.reduceLE, Int.reduceEq, Int.reduceLT, Nat.reduceEqDiff, Nat.reduceAdd, zDk, w1]
            refine ⟨[0, 2, 4, 6, 7], ?_⟩
            simp only [zZ, reduceIte, Nat.reduceLT, Int.reduceToNat, Int.reduceLE, Int.reduceEq, Int.reduceLT, Nat.reduceEqDiff, Nat.reduceAdd, keepF]
            refine ⟨_, Thin.refl _, n - (i + 1), ⟨i + 1, _, rfl, rfl, by omega, Mem.get_set_same h64 _, by rw [Mem.get_set_ne hne62]; exact h24, by rw [Mem.get_set_ne hne64]; exact h44, hown4.same (fun b x hb hx => ?_), ⟨fun b x hb => ?_, by rw [Mem.size_set]; have := hmo.size; omega⟩, by rw [Mem.size_set]; omega⟩, by omega⟩
            · have := (hown4.live hb).1
              rw [Mem.get_set_ne (by omega)]; exact hx
            · have lb := Mem.get_lt hb
              have := mo2.size
              rw [Mem.get_set_ne (by omega)]
              refine hold4 b x (fun e => ?_) (hmo.get b x hb)
              have := hlv b e
              have := mo3.size
              omega
          · have hin := of_decide_eq_false hq
            obtain rfl : i = n := by omega
            simp only [zZ, reduceIte, Nat.reduceLT, Int.reduceToNat, Int.reduceLE, Int.reduceEq, Int.reduceLT, Nat.reduceEqDiff, Nat.reduceAdd, zDk]
            refine ⟨[2, 6], ?_⟩
            simp only [zZ, reduceIte, Nat.reduceLT, Int.reduceToNat, Int.reduceLE, Int.reduceEq, Int.reduceLT, Nat.reduceEqDiff, Nat.reduceAdd, keepF]
            exact ⟨_, Thin.refl _, V, h6, h2, hown, hmo⟩
      · rintro f M5 ⟨rfl, V, h6, h2, hown, hmo⟩
        obtain ⟨pa, pc, rfl⟩ := hown.len
        obtain ⟨gs, ms⟩ := fin M5 noHead T.1 _ (.slice pa (blocksL s n).length pc) h2 hmo
        have own2 : BlOwn M3.size (M5.set b2 (some (.cells false s3 (archC T.1 (.slice pa (blocksL s n).length pc)).toList))) (.slice pa (blocksL s n).length pc) (blocksL s n) := hown.same fun b x hb hx => by
          have := (hown.live hb).1
          have := Mem.get_lt g23
          rw [Mem.get_set_ne (by omega)]; exact hx
        refine CW_seq (CW_region ?_)
        simp only [zZ, reduceIte, Nat.reduceLT, Int.reduceToNat, Int.reduceLE, Int.reduceEq, Int.reduceLT, Nat.reduceEqDiff, Nat.reduceAdd, zDk, h6, row8, h2, agg8, put8]
        refine CW_ret ?_
        simp only [zZ, reduceIte, Nat.reduceLT, Int.reduceToNat, Int.reduceLE, Int.reduceEq, Int.reduceLT, Nat.reduceEqDiff, Nat.reduceAdd, zDk, mEnd, sAnswer, sAnswer.sRes, aLoad_g, gs, row8]
        have fin9 := TakeR.good (M := M) hlt (by rw [← hT]; exact e) (by rw [← hT]; exact hn) hlen (by omega) own2 ms
        rw [← hT] at fin9
        exact ⟨_, Thin.refl _, fin9⟩
    · have q5 : (((s.length : Nat) : Int) != 98 + 224 * T.1.n) = true := by simp; exact hne
      obtain ⟨gs, ms⟩ := fin M2 noHead noHead _ (.slice none 0 0) g22 mo2
      refine CW_seq (CW_seq (CW_region ?_))
      simp only [zZ, reduceIte, Nat.reduceLT, Int.reduceToNat, Int.reduceLE, Int.reduceEq, Int.reduceLT, Nat.reduceEqDiff, Nat.reduceAdd, zDk, hbs, t0, g4, k2, w5, w6, q5]
      refine CW_cond true (by rfl) (fun _ => CW_seq (CW_region ?_)) (fun h => by cases h)
      simp only [zZ, reduceIte, Nat.reduceLT, Int.reduceToNat, Int.reduceLE, Int.reduceEq, Int.reduceLT, Nat.reduceEqDiff, Nat.reduceAdd, zDk, hbd0, g22, agg8, put8]
      refine CW_ret ?_
      simp only [zZ, reduceIte, Nat.reduceLT, Int.reduceToNat, Int.reduceLE, Int.reduceEq, Int.reduceLT, Nat.reduceEqDiff, Nat.reduceAdd, zDk, mEnd, sAnswer, sAnswer.sRes, aLoad_g, gs, row8]
      exact ⟨_, Thin.refl _, TakeR.bad (.inr (.inr (by rw [← hT]; omega))) ms⟩
  · rw [← hT] at e
    have t0 : ((2 : Int) != 0) = true := rfl
    rw [e]
    obtain ⟨gs, ms⟩ := fin M2 noHead noHead _ (.slice none 0 0) g22 mo2
    refine CW_seq (CW_seq (CW_region ?_))
    simp only [zZ, reduceIte, Nat.reduceLT, Int.reduceToNat, Int.reduceLE, Int.reduceEq, Int.reduceLT, Nat.reduceEqDiff, Nat.reduceAdd, zDk, t0]
    refine CW_cond true (by rfl) (fun _ => CW_seq (CW_region ?_)) (fun h => by cases h)
    simp only [zZ, reduceIte, Nat.reduceLT, Int.reduceToNat, Int.reduceLE, Int.reduceEq, Int.reduceLT, Nat.reduceEqDiff, Nat.reduceAdd, zDk, hbd0, g22, agg8, put8]
    refine CW_ret ?_
    simp only [zZ, reduceIte, Nat.reduceLT, Int.reduceToNat, Int.reduceLE, Int.reduceEq, Int.reduceLT, Nat.reduceEqDiff, Nat.reduceAdd, zDk, mEnd, sAnswer, sAnswer.sRes, aLoad_g, gs, row8]
    exact ⟨_, Thin.refl _, TakeR.bad (.inr (.inl (by rw [← hT, e]; decide))) ms⟩
end Go.Proofs.YtkifimkcmfglmaaGreatDoor
namespace Go.Proofs.YtkifimkcmfglmaaGreatDoor
open Go.RowKit Abs
set_option maxRecDepth 100000 in
theorem rep_header {m : Mem} {B : Nat} {cs : List Value} (h : ARep Tryz.prog m B 23 cs) : ∃ x : Header, cs = x.cells ∧ ((Lit.int .i64 x.id).wf = true ∧ (Lit.int .i64 x.n).wf = true ∧ (Lit.int .i64 x.bytes).wf = true ∧ (Lit.int .i64 x.raw).wf = true) := by
  obtain ⟨hl, hf⟩ := h.inv_struct Tryz.underlying23
  rw [cellsHeader] at hl
  match cs, hl with
  | [c0, c1, c2, c3, c4, c5, c6], _ =>
  obtain ⟨a0, r0, w0⟩ := (hf 0 _ rfl).inv_int Tryz.underlying3
  obtain ⟨a1, r1, w1⟩ := (hf 1 _ rfl).inv_string Tryz.underlying9
  obtain ⟨a2, r2, w2⟩ := (hf 2 _ rfl).inv_int Tryz.underlying3
  obtain ⟨a3, r3, w3⟩ := (hf 3 _ rfl).inv_int Tryz.underlying3
  obtain ⟨a4, r4, w4⟩ := (hf 4 _ rfl).inv_int Tryz.underlying3
  obtain ⟨a5, r5, w5⟩ := (hf 5 _ rfl).inv_string Tryz.underlying9
  obtain ⟨a6, r6, w6⟩ := (hf 6 _ rfl).inv_string Tryz.underlying9
  simp [cellsInt, cellsStr] at r0 r1 r2 r3 r4 r5 r6
  exact ⟨⟨a0, a1, a2, a3, a4, a5, a6⟩, by simp [Header.cells, *], w0, w2, w3, w4⟩
end Go.Proofs.YtkifimkcmfglmaaGreatDoor
namespace Go.Proofs.YtkifimkcmfglmaaGreatDoor
open Go.RowKit Abs
set_option maxRecDepth 100000 in
theorem arg_arch {m : Mem} {B : Nat} {v : Value} (h : ArgOf Tryz.prog m B 26 v) :
    ∃ (x : Header) (bs : List ByteArray) (p : Option Addr) (k : Nat), v = .agg (archC x (.slice p bs.length k)) ∧ Rd m 1 (.slice p bs.length k) bs.length (bs.map .string) ∧ bs.length ≤ B := by
  obtain ⟨cs, rfl, h2⟩ := arg_row Tryz.underlying26 h
  obtain ⟨hl, hf⟩ := h2.inv_struct Tryz.underlying26
  have hl : cs.length = 8 := hl
  match cs, hl with
  | [c0, c1, c2, c3, c4, c5, c6, c7], _ =>
  obtain ⟨x, hx, _⟩ := rep_header (hf 0 _ rfl)
  obtain ⟨v, ss, hv, hr, hlen, _⟩ := ARep.list (fun s : ByteArray => [Value.string s]) (fun _ => True) (n := 1) Tryz.underlying24 (by kernel_rfl) (fun cs hc => by
    obtain ⟨s, rfl, _⟩ := hc.inv_string Tryz.underlying9
    exact ⟨s, rfl, trivial⟩) (hf 1 _ rfl)
  have hx2 : [c0, c1, c2, c3, c4, c5, c6] = x.cells := hx
  have hv2 : c7 = v := by
    have h : [c7] = [v] := hv
    simpa using h
  have ef : ∀ l : List ByteArray, l.flatMap (fun s : ByteArray => [Value.string s]) = l.map .string := fun l => by induction l with
    | nil => rfl
    | cons a r ih => rw [List.flatMap_cons, ih]; rfl
  rw [ef] at hr
  simp only [Header.cells, List.cons.injEq, and_true] at hx2
  obtain ⟨rfl, rfl, rfl, rfl, rfl, rfl, rfl⟩ := hx2
  subst hv2
  obtain ⟨p, k, e, hrest⟩ := id hr
  subst e
  exact ⟨x, ss, p, k, rfl, hr, hlen.1⟩
end Go.Proofs.YtkifimkcmfglmaaGreatDoor
namespace Go.Proofs.YtkifimkcmfglmaaGreatDoor.Abs
open Go
section
variable [Defs]
section
variable {P : Program} {ops : Array Oper} {a₀ : List Value} {m : Mem} {v : Nat → Value} {N : Nat → List (Option Blk)}
structure Chain (P : Program) (ops : Array Oper) (a₀ : List Value) (v : Nat → Value) (W : Nat → Mem) (wr : Nat → Bool) (q1 q2 : Nat) : Prop where
  bar : ∀ i, wr i = true → q1 ≤ i
  first : wr q1 = true
  ord : ∀ i j, i < q2 → wr i = true → j < i → wr j = true → B ops i j = true
  pure : ∀ i o, i < q2 → ops[i]? = some o → wr i = false → (q1 ≤ i ∨ B ops q1 i = false) → o.guard = none ∧ ∀ p, q1 < p → p ≤ q2 → evOp P o.op (frB ops a₀ v i) (W p) = some (v i, W p)
  keep : ∀ i, q1 ≤ i → i < q2 → wr i = false → W (i + 1) = W i
  wrt : ∀ i o, i < q2 → ops[i]? = some o → wr i = true → o.guard = none ∧ OpOK P o (frB ops a₀ v i) (W i) (v i) (W (i + 1))
theorem Chain.same {W : Nat → Mem} {wr : Nat → Bool} {q1 q2 : Nat} (h : Chain P ops a₀ v W wr q1 q2) {p : Nat} (hp : q1 ≤ p) : ∀ d, p + d ≤ q2 → (∀ j, p ≤ j → j < p + d → wr j = false) → W (p + d) = W p
  | 0, _, _ => rfl
  | d + 1, h1, h2 => by
    rw [show p + (d + 1) = (p + d) + 1 by omega, h.keep (p + d) (by omega) (by omega) (h2 _ (by omega) (by omega))]
    exact h.same hp d (by omega) fun j h3 h4 => h2 j h3 (by omega)
theorem mid_runW {q1 q2 : Nat} (hq : drawOK ops q2 = true) (h12 : q1 < q2) (hqs : q2 ≤ ops.size) {W : Nat → Mem} {wr : Nat → Bool} (hC : Chain P ops a₀ v W wr q1 q2)
    {Q : Exit → List Value → Mem → Prop} {ι₀ : Nat → Loc} {m₀ : Mem} {w₀ : World}
    (ht : aOps P ops.toList (Q .normal) (ops.toList.drop q2) (frameAt ops v allS a₀ q2) (W q2)) : ∀ (fuel : Nat) (listed : Array Bool) (_ : listed.size = ops.size) (_ : leftN (getL listed) ops.size ≤ fuel)
    (_ : Down ops (getL listed)) (p : Nat) (_ : q1 < p) (_ : p ≤ q2) (_ : ∀ j, j < q2 → wr j = true → getL listed j = decide (j < p)) (_ : ∀ j, q2 ≤ j → getL listed j = false) (κ : Nat → Loc) (act : Act) (w : World),
    ARel (W p).Has κ (frameAt ops v (getL listed) a₀ q2) act → Rel κ (W p) w → Step ι₀ m₀ w₀ κ (W p) w → wpAny P .any ops (Post ι₀ m₀ w₀ Q) fuel listed act w := by
  have hq0 := hq
  simp only [drawOK, Bool.and_eq_true] at hq
  obtain ⟨⟨⟨hsel, hback⟩, hap⟩, hwait⟩ := hq
  have done : ∀ (fuel : Nat) (listed : Array Bool) (_ : listed.size = ops.size) (_ : leftN (getL listed) ops.size ≤ fuel) (p : Nat) (_ : q1 < p) (_ : p ≤ q2) (_ : ∀ j, j < q2 → wr j = true → getL listed j = decide (j < p)) (_ : ∀ j, q2 ≤ j → getL listed j = false) (κ : Nat → Loc) (act : Act) (w : World),
      ARel (W p).Has κ (frameAt ops v (getL listed) a₀ q2) act → Rel κ (W p) w → Step ι₀ m₀ w₀ κ (W p) w → (∀ j, j < q2 → getL listed j = true) → wpAny P .any ops (Post ι₀ m₀ w₀ Q) fuel listed act w := by
    intro fuel listed hsz hfuel p hp1 hp2 hpw hhi κ act w ha hr hs hall
    have hW : W q2 = W p := by
      have := hC.same (p := p) (by omega) (q2 - p) (by omega) fun j h1 h2 => by
        cases hw : wr j
        · rfl
        · have h3 := hpw j (by omega) hw
          rw [hall j (by omega)] at h3
          have := of_decide_eq_true h3.symm
          omega
      rwa [show p + (q2 - p) = q2 by omega] at this
    rw [← hW] at ha hr hs
    have hfr : frameAt ops v (getL listed) a₀ q2 = frameAt ops v allS a₀ q2 := by
      apply List.ext_getElem?
      intro t
      exact frameAt_get t q2 fun k hk _ => hall k hk
    rw [hfr] at ha
    refine tail_run hq0 _ q2 (Nat.le_refl _) rfl fuel listed hsz (fun j hj => ?_) hfuel _ _ ht κ act w hs ha hr
    rcases Nat.lt_or_ge j q2 with h | h
    · rw [hall j h]; simp [h]
    · rw [hhi j h]; simp; omega
  intro fuel
  induction fuel with
  | zero =>
    intro listed hsz hfuel hdown p hp1 hp2 hpw hhi κ act w ha hr hs
    exact done 0 listed hsz hfuel p hp1 hp2 hpw hhi κ act w ha hr hs fun j hj => left_none hfuel j (by omega)
  | succ fuel ih =>
    intro listed hsz hfuel hdown p hp1 hp2 hpw hhi κ act w ha hr hs
    by_cases hall : ∀ j, j < q2 → getL listed j = true
    · exact done (fuel + 1) listed hsz hfuel p hp1 hp2 hpw hhi κ act w ha hr hs hall
    · have hex : ∃ j, j < q2 ∧ getL listed j = false := by
        rcases Classical.em (∃ j, j < q2 ∧ getL listed j = false) with h' | h'
        · exact h'
        · refine absurd (fun j hj => ?_) hall
          cases hg : getL listed j
          · exact absurd ⟨j, hj, hg⟩ h'
          · rfl
      obtain ⟨j, hj, hjf⟩ := hex
      refine ⟨fun hn => absurd hn (ready_some hsz hback ⟨j, by omega, hjf⟩), fun i hi => ?_⟩
      obtain ⟨hilt, hiu, oi, hoi, hallE⟩ := (ready_get hsz).1 hi
      have hiq : i < q2 := by
        rcases Nat.lt_or_ge i q2 with h | h
        · exact h
        · exfalso
          have := hdown.bef i oi hoi hallE j (waitAll_spec hwait hilt h (by omega))
          rw [hjf] at this; cases this
      have hl1 : getL listed q1 = true := by rw [hpw q1 h12 hC.first]; exact decide_eq_true hp1
      have hsub : ∀ k, B ops i k = true → getL listed k = true := fun k hk => hdown.bef i oi hoi hallE k hk
      have hgl := getL_set (listed := listed) (i := i) (by omega)
      have hstep : oi.guard = none ∧ ∃ p', q1 < p' ∧ p' ≤ q2 ∧ OpOK P oi (frB ops a₀ v i) (W p) (v i) (W p') ∧ ∀ j, j < q2 → wr j = true → getL (listed.setIfInBounds i true) j = decide (j < p') := by
        cases hw : wr i with
        | true =>
          obtain ⟨hg, he⟩ := hC.wrt i oi hiq hoi hw
          have hpi : p ≤ i := by
            have := hpw i hiq hw
            rw [hiu] at this
            have := of_decide_eq_false this.symm
            omega
          have hno : ∀ j, p ≤ j → j < i → wr j = false := fun j h1 h2 => by
            cases hwj : wr j
            · rfl
            · have h3 := hsub j (hC.ord i j hiq hw h2 hwj)
              rw [hpw j (by omega) hwj] at h3
              have := of_decide_eq_true h3
              omega
          have hW : W i = W p := by
            have := hC.same (p := p) (by omega) (i - p) (by omega) fun j h1 h2 => hno j h1 (by omega)
            rwa [show p + (i - p) = i by omega] at this
          rw [hW] at he
          refine ⟨hg, i + 1, by have := hC.bar i hw; omega, by omega, he, fun j hjq hwj => ?_⟩
          rw [hgl]
          by_cases hji : j = i
          · subst hji; simp
          · have h1 := hpw j hjq hwj
            have h2 : (j == i) = false := by simp [hji]
            show (getL listed j || j == i) = _
            rw [h1, h2, Bool.or_false, decide_eq_decide]
            constructor
            · intro h; omega
            · intro h
              rcases Nat.lt_or_ge j p with h3 | h3
              · exact h3
              · have := hno j h3 (by omega)
                rw [hwj] at this; cases this
        | false =>
          have hcond : q1 ≤ i ∨ B ops q1 i = false := by
            rcases Nat.lt_or_ge i q1 with h | h
            · right
              cases hb : B ops q1 i
              · rfl
              · have ho1 : ops[q1]? = some ops[q1] := Array.getElem?_eq_getElem (by omega)
                have := hdown.bef q1 _ ho1 (hdown q1 _ ho1 hl1) i hb
                rw [hiu] at this; cases this
            · exact .inl h
          obtain ⟨hg, he⟩ := hC.pure i oi hiq hoi hw hcond
          refine ⟨hg, p, hp1, hp2, OpSim.op (he p hp1 hp2) ⟨rfl, rfl⟩, fun j hjq hwj => ?_⟩
          rw [hgl]
          have hji : j ≠ i := fun e => by rw [e, hw] at hwj; cases hwj
          have h2 : (j == i) = false := by simp [hji]
          show (getL listed j || j == i) = _
          rw [h2, Bool.or_false]
          exact hpw j hjq hwj
      obtain ⟨hgi, p', hp1', hp2', hei, hpw'⟩ := hstep
      unfold wpOp
      simp only [hoi]
      rw [wanted_free hgi]
      left
      refine hei (frameAt ops v (getL listed) a₀ q2) κ act act w _ _ (fun x hx => (ev_looks (o := oi) (slot_of hap hqs hdown hoi hiq hiu hsub) x hx).symm) ha hr rfl ?_
      rintro _ _ v' w' κ' ⟨rfl, rfl⟩ hv hr' hs'
      have ha' : ARel (W p').Has κ' (aPut (frameAt ops v (getL listed) a₀ q2) oi.dst (v i)) (act.put oi.dst v') := (ha.mono hs'.grows hs'.at_).put' oi.dst hv
      have hnx : wpAny P .any ops (Post ι₀ m₀ w₀ Q) fuel (listed.setIfInBounds i true) (act.put oi.dst v') w' := by
        refine ih _ (by simp [hsz]) ?_ ?_ p' hp1' hp2' hpw' (fun k hk => ?_) κ' _ w' ?_ hr' (hs.trans hs')
        · have := leftN_add hiu ops.size hilt
          rw [hgl]
          omega
        · rw [hgl]
          intro k ok hk hSk e he hb
          simp only [Bool.or_eq_true, beq_iff_eq] at hSk ⊢
          rcases hSk with hSk | rfl
          · exact .inl (hdown k ok hk hSk e he hb)
          · rw [hoi] at hk; cases hk
            exact .inl (hallE e he hb)
        · rw [hgl]
          have : (k == i) = false := by simp; omega
          simp [hhi k hk, this]
        · rw [hgl, frameAt_add hiu q2 hiq fun k h2 h3 hk t ht' hkt => ?_]
          · rw [hoi]
            exact ha'
          · have hkk : ops[k]? = some ops[k] := Array.getElem?_eq_getElem (by omega)
            rw [hoi] at ht'
            rw [hkk] at hkt
            cases hb : B ops k i
            · exact (Oper.apart_spec (apartAll_spec hap h2 h3 hoi hkk hb)).2.1 t ht' hkt
            · have := hdown.bef k _ hkk (hdown k _ hkk hk) i hb
              rw [hiu] at this; cases this
      exact hnx
theorem newsAt_more {N : Nat → List (Option Blk)} {S : Nat → Bool} {q : Nat} : ∀ d, (∀ k, q ≤ k → k < q + d → N k = []) → newsAt N S (q + d) = newsAt N S q
  | 0, _ => rfl
  | d + 1, h => by
    rw [show q + (d + 1) = (q + d) + 1 by omega]
    simp only [newsAt]
    rw [h (q + d) (by omega) (by omega), newsAt_more d fun k h1 h2 => h k h1 (by omega)]
    simp
theorem head_runW {q1 q2 : Nat} (hq : drawOK ops q2 = true) (h12 : q1 < q2) (hqs : q2 ≤ ops.size) {W : Nat → Mem} {wr : Nat → Bool} (hC : Chain P ops a₀ v W wr q1 q2)
    (ha₀ : ∀ (t : Nat) (x : Value), a₀[t]? = some x → Cl m.Has x) (hm : ∀ b x, m.get b = some x → ClBlk m.Has x)
    (hd : ∀ i o, i < q2 → ops[i]? = some o → wr i = false → DOp P ops a₀ m v N i o) (hN1 : ∀ i, i < q1 → B ops q1 i = false → N i = []) (hN2 : ∀ i, q1 ≤ i → i < q2 → N i = []) (hW : W q1 = memAt m N allS q1)
    {Q : Exit → List Value → Mem → Prop} {ι₀ : Nat → Loc} {m₀ : Mem} {w₀ : World}
    (ht : aOps P ops.toList (Q .normal) (ops.toList.drop q2) (frameAt ops v allS a₀ q2) (W q2)) : ∀ (fuel : Nat) (listed : Array Bool) (_ : listed.size = ops.size) (_ : leftN (getL listed) ops.size ≤ fuel) (_ : ∀ j, j < q2 → wr j = true → getL listed j = false)
    (κ : Nat → Loc) (act : Act) (w : World), Inv ops a₀ m v N q2 ι₀ m₀ w₀ (getL listed) κ act w → wpAny P .any ops (Post ι₀ m₀ w₀ Q) fuel listed act w := by
  have hq0 := hq
  have hho := drawOK_head hq
  simp only [drawOK, Bool.and_eq_true] at hq
  obtain ⟨⟨⟨hsel, hback⟩, hap⟩, hwait⟩ := hq
  intro fuel
  induction fuel with
  | zero =>
    intro listed hsz hfuel hnw κ act w h
    have := left_none hfuel q1 (by omega)
    rw [hnw q1 h12 hC.first] at this
    cases this
  | succ fuel ih =>
    intro listed hsz hfuel hnw κ act w h
    have hlq := hnw q1 h12 hC.first
    refine ⟨fun hn => absurd hn (ready_some hsz hback ⟨q1, by omega, hlq⟩), fun i hi => ?_⟩
    obtain ⟨hilt, hiu, oi, hoi, hallE⟩ := (ready_get hsz).1 hi
    have hsub : ∀ k, B ops i k = true → getL listed k = true := fun k hk => h.down.bef i oi hoi hallE k hk
    have hiq : i < q2 := by
      rcases Nat.lt_or_ge i q2 with h' | h'
      · exact h'
      · exfalso
        have := hsub q1 (waitAll_spec hwait hilt h' (by omega))
        rw [hlq] at this; cases this
    have hgl := getL_set (listed := listed) (i := i) (by omega)
    cases hw : wr i with
    | false =>
      refine h.op hho (by omega) ha₀ hm hoi hiq hiu hallE (hd i oi hiq hoi hw) fun κ' act' w' h' => ?_
      refine ih _ (by simp [hsz]) ?_ (fun j hj hwj => ?_) κ' act' w' (by rw [hgl]; exact h')
      · have := leftN_add hiu ops.size hilt
        rw [hgl]
        omega
      · rw [hgl]
        have hji : j ≠ i := fun e => by rw [e, hw] at hwj; cases hwj
        have h2 : (j == i) = false := by simp [hji]
        show (getL listed j || j == i) = _
        rw [h2, Bool.or_false]
        exact hnw j hj hwj
    | true =>
      have hi1 : i = q1 := by
        have h1 := hC.bar i hw
        rcases Nat.lt_or_ge q1 i with h2 | h2
        · have := hsub q1 (hC.ord i q1 hiq hw h2 hC.first)
          rw [hlq] at this; cases this
        · omega
      subst hi1
      obtain ⟨hgi, hei⟩ := hC.wrt i oi hiq hoi hw
      have hmem : memAt m N (getL listed) q2 = W i := by
        rw [hW]
        unfold memAt
        rw [newsAt_nil (T := allS) q2 fun k hk => ?_]
        · have := newsAt_more (N := N) (S := allS) (q := i) (q2 - i) fun k h1 h2 => hN2 k h1 (by omega)
          rw [show i + (q2 - i) = q2 by omega] at this
          rw [this]
        · rcases Nat.lt_or_ge k i with h1 | h1
          · cases hf : getL listed k
            · right
              refine hN1 k h1 ?_
              cases hb : B ops i k
              · rfl
              · rw [hsub k hb] at hf; cases hf
            · exact .inl rfl
          · exact .inr (hN2 k h1 hk)
      unfold wpOp
      simp only [hoi]
      rw [wanted_free hgi]
      left
      refine hei (frameAt ops v (getL listed) a₀ q2) κ act act w _ _ (fun x hx => (ev_looks (o := oi) (slot_of hap hqs h.down hoi hiq hiu hsub) x hx).symm) (by rw [← hmem]; exact h.frame) (by rw [← hmem]; exact h.rel) rfl ?_
      rintro _ _ v' w' κ' ⟨rfl, rfl⟩ hv hr' hs'
      rw [← hmem] at hs'
      have ha' : ARel (W (i + 1)).Has κ' (aPut (frameAt ops v (getL listed) a₀ q2) oi.dst (v i)) (act.put oi.dst v') := (h.frame.mono hs'.grows hs'.at_).put' oi.dst hv
      have hnx : wpAny P .any ops (Post ι₀ m₀ w₀ Q) fuel (listed.setIfInBounds i true) (act.put oi.dst v') w' := by
        refine mid_runW hq0 h12 hqs hC ht fuel _ (by simp [hsz]) ?_ ?_ (i + 1) (by omega) (by omega) (fun j hj hwj => ?_) (fun k hk => ?_) κ' _ w' ?_ hr' (h.step.trans hs')
        · have := leftN_add hiu ops.size hilt
          rw [hgl]
          omega
        · rw [hgl]
          intro k ok hk hSk e he hb
          simp only [Bool.or_eq_true, beq_iff_eq] at hSk ⊢
          rcases hSk with hSk | rfl
          · exact .inl (h.down k ok hk hSk e he hb)
          · rw [hoi] at hk; cases hk
            exact .inl (hallE e he hb)
        · rw [hgl]
          show (getL listed j || j == i) = _
          rw [hnw j hj hwj, Bool.false_or]
          have := hC.bar j hwj
          by_cases hji : j = i
          · subst hji; simp
          · have h2 : (j == i) = false := by simp [hji]
            rw [h2, decide_eq_false (by omega)]
        · rw [hgl]
          have : (k == i) = false := by simp; omega
          simp [h.low k hk, this]
        · rw [hgl, frameAt_add hiu q2 hiq fun k h2 h3 hk t ht' hkt => ?_]
          · rw [hoi]
            exact ha'
          · have hkk : ops[k]? = some ops[k] := Array.getElem?_eq_getElem (by omega)
            rw [hoi] at ht'
            rw [hkk] at hkt
            cases hb : B ops k i
            · exact (Oper.apart_spec (apartAll_spec hap h2 h3 hoi hkk hb)).2.1 t ht' hkt
            · have := h.down.bef k _ hkk (h.down k _ hkk hk) i hb
              rw [hiu] at this; cases this
      exact hnx
theorem AW_chain {id : Nat} {Q : Exit → List Value → Mem → Prop} (hmix : P.follows .mixedOrders = true) {q1 q2 : Nat} (hq : drawOK ops q2 = true) (h12 : q1 < q2) (hqs : q2 ≤ ops.size) {W : Nat → Mem} {wr : Nat → Bool} (hC : Chain P ops a₀ v W wr q1 q2)
    (hd : ∀ i o, i < q2 → ops[i]? = some o → wr i = false → DOp P ops a₀ m v N i o) (hN1 : ∀ i, i < q1 → B ops q1 i = false → N i = []) (hN2 : ∀ i, q1 ≤ i → i < q2 → N i = []) (hW : W q1 = memAt m N allS q1)
    (ht : aOps P ops.toList (Q .normal) (ops.toList.drop q2) (frameAt ops v allS a₀ q2) (W q2)) : AW P (.region id ops true) Q a₀ m := by
  intro ι₀ m₀ w₀ ι act w hs ha hr
  refine wp_region_any hmix ?_
  have hr' : Rel ι m { w with drawn := w.drawn + 1 } := ⟨hr.at', hr.oth, hr.inj, ⟨hr.glob.known.keep fun _ _ => rfl, hr.glob.own⟩⟩
  have hs' : Step ι₀ m₀ w₀ ι m { w with drawn := w.drawn + 1 } := ⟨hs.os, hs.tape, hs.output, hs.size, hs.grows, hs.at_, hs.block, hs.own⟩
  have hcl : ∀ (t : Nat) (x : Value), a₀[t]? = some x → Cl m.Has x := fun t x hx => by
    obtain ⟨y, _, hy⟩ := ha.tmps.get hx
    exact hy.cl
  have hmc := hr.clBlk
  have hgl : getL (Array.replicate ops.size false) = fun _ => false := by
    funext k
    unfold getL
    rw [Array.getD_eq_getD_getElem?, Array.getElem?_replicate]
    split <;> rfl
  have hfr : ∀ n, frameAt ops v (fun _ => false) a₀ n = a₀ := by
    intro n
    induction n with
    | zero => rfl
    | succ n ih => simp [frameAt, ih]
  refine head_runW hq h12 hqs hC hcl hmc hd hN1 hN2 hW ht ops.size _ (by simp) (by rw [hgl, leftN_none]; exact Nat.le_refl _) (fun j _ _ => by rw [hgl]) ι act _ ?_
  rw [hgl]
  refine ⟨fun k o _ h => absurd h (by simp), fun _ _ => rfl, ?_, memAt_none_rel q2 hr', ?_, fun k _ h => absurd h (by simp), fun k _ h => absurd h (by simp)⟩
  · rw [hfr]
    exact ha.mono (fun c hc => (memAt_has _ _ _).2 (.inl hc)) fun _ _ => rfl
  · refine hs'.trans ⟨rfl, rfl, rfl, Nat.le_refl _, fun b hb => (memAt_has _ _ _).2 (.inl hb), fun _ _ => rfl, fun _ _ _ => rfl, fun b hb => .inr ⟨b, ?_, rfl⟩⟩
    obtain ⟨y, hx, hy⟩ := hb
    rcases (memAt_get _ _ _ _).1 hx with ⟨_, h1⟩ | ⟨k, _, h1, _⟩
    · exact ⟨y, h1, hy⟩
    · cases h1
end
end
end Go.Proofs.YtkifimkcmfglmaaGreatDoor.Abs
namespace Go.Proofs.YtkifimkcmfglmaaGreatDoor.Abs
open Go
def Mem.lay (m : Mem) (r : Nat) (x : Blk) : Mem := ⟨m.blks.set r (some (some x))⟩
theorem lay_get {m : Mem} {r : Nat} {x : Blk} (hr : r < m.size) (b : Nat) : (m.lay r x).get b = if b = r then some x else m.get b := by
  unfold Mem.get Mem.lay
  simp only [List.getElem?_set]
  by_cases h : r = b
  · subst h
    have : r < m.blks.length := hr
    simp [this]
  · have h2 : ¬ b = r := fun e => h e.symm
    simp [h, h2]
theorem lay_has {m : Mem} {r : Nat} {x : Blk} (hr : r < m.size) (b : Nat) : (m.lay r x).Has b ↔ b = r ∨ m.Has b := by
  unfold Mem.Has Mem.lay
  simp only [List.getElem?_set]
  by_cases h : r = b
  · subst h
    have : r < m.blks.length := hr
    simp [this]
  · have h2 : ¬ b = r := fun e => h e.symm
    simp [h, h2]
theorem lay_step {κ κ' : Nat → Loc} {M M' : Mem} {r : Nat} {x : Blk} {w w' : World} (hr : r < M.size) (hn : ¬ M.Has r) (hn' : ¬ M'.Has r) (he : Ext M M') (h : Rel κ (M.lay r x) w) (h' : Rel κ' M' w') (hs : Step κ M w κ' M' w') :
    Rel (joinLoc M' κ' κ) (M'.lay r x) w' ∧ Step κ (M.lay r x) w (joinLoc M' κ' κ) (M'.lay r x) w' := by
  have hr' : r < M'.size := Nat.lt_of_lt_of_le hr he.1
  have hlt : ∀ {m : Mem} {b : Nat}, m.Has b → b < m.size := fun ⟨o, ho⟩ => (List.getElem?_eq_some_iff.1 ho).1
  have hg : ∀ {m : Mem} {b : Nat}, m.Has b → m.get b = none → m.blks[b]? = some (some none) := fun {m b} ⟨o, ho⟩ hn => by
    unfold Mem.get at hn
    rw [ho] at hn
    simp only at hn
    rw [ho, hn]
  refine part_step (M := M.lay r x) (M1 := M) (M1' := M') (M' := M'.lay r x) h h' hs (fun b hb => ⟨(lay_has hr b).2 (.inr hb), ?_⟩) (fun b hb => ?_) (fun b hb hl hnone => ?_) (fun b hb hnb hl => ?_) (fun b hb => ?_) (fun b hb => ?_) (fun b => ?_)
  · rw [lay_get hr, if_neg (fun e : b = r => hn (by rw [← e]; exact hb))]
  · by_cases hM : M.Has b
    · exact .inl hM
    · refine .inr fun h2 => ?_
      rcases (lay_has hr b).1 h2 with rfl | h2
      · exact hn' hb
      · exact hM h2
  · refine hl ?_
    have h3 := hg hb hnone
    rcases he.2.1 b (hlt hb) with h4 | ⟨⟨y, h5, _⟩, _⟩
    · unfold Mem.get
      rw [h4, h3]
    · rw [hnone] at h5; cases h5
  · have hb2 : ¬ b < M.size ∨ M.blks[b]? = some none := by
      by_cases hlt2 : b < M.size
      · right
        have : M.blks[b]? = some M.blks[b] := List.getElem?_eq_getElem hlt2
        cases hx : M.blks[b]'hlt2 with
        | none => rw [this, hx]
        | some o => exact absurd ((lay_has hr b).2 (.inr ⟨o, by rw [this, hx]⟩)) hnb
      · exact .inl hlt2
    have own : ∀ {o : Option Blk}, M'.blks[b]? = some (some o) → ownB o = true → M'.Own b := fun {o} h1 h2 => by
      have hgo : M'.get b = o := by unfold Mem.get; rw [h1]
      cases o with
      | none => exact absurd hgo hl
      | some y => exact ⟨y, hgo, h2⟩
    rcases hb2 with h1 | h1
    · obtain ⟨o, h2, h3⟩ := he.2.2 b (by omega) (hlt hb)
      exact own h2 h3
    · rcases he.2.1 b (List.getElem?_eq_some_iff.1 h1).1 with h2 | ⟨⟨y, h5, _⟩, o, h6, h7⟩
      · obtain ⟨o, ho⟩ := hb
        rw [h2, h1] at ho; cases ho
      · exact own h6 h7
  · rw [lay_get hr', if_neg (fun e : b = r => hn' (by rw [← e]; exact hb))]
  · rw [lay_get hr', lay_get hr]
    by_cases e : b = r
    · rw [if_pos e, if_pos e]
    · rw [if_neg e, if_neg e]
      have non : ∀ {m : Mem}, ¬ m.Has b → m.get b = none := fun {m} h => by
        cases hx : m.get b with
        | none => rfl
        | some y => exact absurd (Mem.get_has hx) h
      rw [non hb, non fun h => hb (hs.grows b h)]
  · rw [lay_has hr', lay_has hr]
    constructor
    · rintro (h | h)
      · exact .inl (.inl h)
      · exact .inr h
    · rintro ((h | h) | h)
      · exact .inl h
      · exact .inr (hs.grows b h)
      · exact .inr h
def Mem.void (r : Nat) : Mem := ⟨List.replicate r none⟩
theorem void_has (r b : Nat) : ¬ (Mem.void r).Has b := fun ⟨o, ho⟩ => by
  have ho : (List.replicate r (none : Option (Option Blk)))[b]? = some (some o) := ho
  rw [List.getElem?_replicate] at ho
  split at ho <;> cases ho
theorem void_size (r : Nat) : (Mem.void r).size = r := by simp [Mem.void, Mem.size]
theorem void_rel {κ : Nat → Loc} {M : Mem} {w : World} (r : Nat) (h : Rel κ M w) : Rel κ (Mem.void r) w :=
  h.part (fun b x hb => absurd (Mem.get_has hb) (void_has r b)) fun b x hb => absurd (Mem.get_has hb) (void_has r b)
theorem push_has {m : Mem} {x : Blk} (b : Nat) : (m.push x).Has b ↔ m.Has b ∨ b = m.size := by
  constructor
  · rintro ⟨o, ho⟩
    by_cases h : b < m.size
    · refine .inl ⟨o, ?_⟩
      have ho : (m.blks ++ [some (some x)])[b]? = some (some o) := ho
      rwa [List.getElem?_append_left h] at ho
    · right
      have := (List.getElem?_eq_some_iff.1 ho).1
      have e : (m.push x).blks.length = m.size + 1 := Mem.size_push m x
      omega
  · rintro (⟨o, ho⟩ | rfl)
    · refine ⟨o, ?_⟩
      show (m.blks ++ [some (some x)])[b]? = some (some o)
      rw [List.getElem?_append_left (List.getElem?_eq_some_iff.1 ho).1]
      exact ho
    · exact Mem.get_has (Mem.get_push_new m x)
theorem lay_new {κ κ' : Nat → Loc} {M : Mem} {r : Nat} {x : Blk} {w w' : World} (hr : r < M.size) (hn : ¬ M.Has r) (hx : x.own = true) (h : Rel κ M w) (h' : Rel κ' ((Mem.void r).push x) w') (hs : Step κ (Mem.void r) w κ' ((Mem.void r).push x) w') :
    Rel (joinLoc ((Mem.void r).push x) κ' κ) (M.lay r x) w' ∧ Step κ M w (joinLoc ((Mem.void r).push x) κ' κ) (M.lay r x) w' := by
  have one : ∀ b, ((Mem.void r).push x).Has b → b = r := fun b hb => by
    rcases (push_has b).1 hb with h | h
    · exact absurd h (void_has r b)
    · rw [h, void_size]
  have self : ((Mem.void r).push x).get r = some x := by
    have := Mem.get_push_new (Mem.void r) x
    rwa [void_size] at this
  refine part_step (M := M) (M1 := Mem.void r) (M1' := (Mem.void r).push x) (M' := M.lay r x) h h' hs (fun b hb => absurd hb (void_has r b)) (fun b hb => .inr fun h2 => ?_) (fun b hb => absurd hb (void_has r b)) (fun b hb _ _ => ?_) (fun b hb => ?_) (fun b hb => ?_) (fun b => ?_)
  · rw [one b hb] at h2; exact hn h2
  · rw [one b hb]; exact ⟨x, self, hx⟩
  · rw [one b hb, lay_get hr, if_pos rfl, self]
  · rw [lay_get hr, if_neg]
    intro e
    exact hb ((push_has b).2 (.inr (by rw [e, void_size])))
  · rw [lay_has hr]
    constructor
    · rintro (h | h)
      · exact .inr ((push_has b).2 (.inr (by rw [h, void_size])))
      · exact .inl h
    · rintro (h | h)
      · exact .inr h
      · exact .inl (one b h)
end Go.Proofs.YtkifimkcmfglmaaGreatDoor.Abs
namespace Go.Proofs.YtkifimkcmfglmaaGreatDoor.Abs
open Go
section
variable [Defs]
section
variable {P : Program} {ops : Array Oper}
theorem aPut_from {a : List Value} {d : Option Nat} {u y : Value} {t : Nat} (h : (aPut a d u)[t]? = some y) : y = u ∨ a[t]? = some y := by
  cases d with
  | none => exact .inr h
  | some k =>
    simp only [aPut, List.getElem?_set] at h
    split at h
    · split at h
      · exact .inl (Option.some.inj h).symm
      · cases h
    · exact .inr h
theorem mask_rel {n q : Nat → Prop} {κ : Nat → Loc} {F : List Value} {act : Act} (fm : Nat → Bool) (ha : ARel n κ F act) (hc : ∀ t, fm t = true → ∀ y, F[t]? = some y → Cl q y) :
    ARel q κ (maskL fm F) { act with tmps := (maskL fm act.tmps.toList).toArray } := by
  refine ⟨ha.defers, by simp only [maskL_length, List.toList_toArray]; exact ha.tmps.1, fun t x y hx hy => ?_⟩
  simp only [List.toList_toArray] at hy
  rw [maskL_get] at hx hy
  cases hfm : fm t
  · simp only [hfm, Bool.false_eq_true, if_false, Option.map_eq_some_iff] at hx hy
    obtain ⟨_, _, rfl⟩ := hx
    obtain ⟨_, _, rfl⟩ := hy
    exact undef_rel
  · simp only [hfm, if_true, Option.map_id'] at hx hy
    exact (hc t hfm x hx).rel (ha.tmps.2 t x y hx hy)
theorem mask_exec {i : Nat} {o : Oper} (hi : ops[i]? = some o) (hsel : Region.noSelect ops = true) (fm : Nat → Bool) (act : Act) (hlook : ∀ t, Operand.tmp t ∈ o.op.operands → fm t = true) :
    execOp act.eval o = execOp ({ act with tmps := (maskL fm act.tmps.toList).toArray } : Act).eval o := by
  refine execOp_congr o (fun cs b => Region.noSelect_spec hsel i o cs b hi) fun x hx => ?_
  cases x with
  | tmp t =>
    have : ({ act with tmps := (maskL fm act.tmps.toList).toArray } : Act).tmps[t]? = act.tmps[t]? := by
      simp only [List.getElem?_toArray, maskL_get, hlook t hx, if_true, Option.map_id', Array.getElem?_toList]
    simp only [Act.eval, Array.getD_eq_getD_getElem?, this]
  | _ => rfl
theorem ext_none {W W' : Mem} {r : Nat} (he : Ext W W') (hr : r < W.size) (hn : ¬ W.Has r) : ¬ W'.Has r := by
  rintro ⟨o, ho⟩
  rcases he.2.1 r hr with h | ⟨⟨y, h, _⟩, _⟩
  · exact hn ⟨o, by rw [← h, ho]⟩
  · exact hn (Mem.get_has h)
theorem op_lay {i : Nat} {o : Oper} {a F : List Value} {W W' : Mem} {v : Value} {r : Nat} {x : Blk} {κ : Nat → Loc} {act : Act} {w : World} (hi : ops[i]? = some o) (hsel : Region.noSelect ops = true)
    (hok : OpOK P o a W v W') (he : Ext W W') (hr : r < W.size) (hn : ¬ W.Has r) (hcB : ∀ b y, W.get b = some y → ClBlk W.Has y)
    (hcV : ∀ t, t ∈ o.looksAt ops → ∀ y, F[t]? = some y → Cl W.Has y) (hF : ∀ t, t ∈ o.looksAt ops → F[t]? = a[t]?)
    (ha : ARel (W.lay r x).Has κ F act) (hrel : Rel κ (W.lay r x) w) {K : Act → World → Prop} {Q : Exit → Act → World → Prop}
    (hK : ∀ v' w' κ' κ'', VRel W'.Has κ' v v' → Rel κ' W' w' → VRel (W'.lay r x).Has κ'' v v' → Rel κ'' (W'.lay r x) w' → Step κ (W.lay r x) w κ'' (W'.lay r x) w' → K (act.put o.dst v') w') :
    o.wp P act w K Q := by
  have hlook : ∀ t, Operand.tmp t ∈ o.op.operands → t ∈ o.looksAt ops := fun t ht => by
    simp only [Oper.looksAt, List.mem_append, List.mem_filterMap]
    exact .inl ⟨.tmp t, by simpa using ht, rfl⟩
  obtain ⟨fm, hfm⟩ : ∃ fm : Nat → Bool, fm = fun t => (o.looksAt ops).contains t := ⟨_, rfl⟩
  have hfl : ∀ t, Operand.tmp t ∈ o.op.operands → fm t = true := fun t ht => by
    rw [hfm]
    simpa using hlook t ht
  have hpart : Rel κ W w := hrel.part (fun b y hb => by
    rw [lay_get hr, if_neg]
    · exact hb
    · intro e; exact hn (by rw [← e]; exact Mem.get_has hb)) hcB
  have ha' := mask_rel (q := W.Has) fm ha fun t ht y hy => hcV t (by rw [hfm] at ht; simpa using ht) y hy
  have hev : ∀ x ∈ o.op.operands, aEval a x = aEval (maskL fm F) x := by
    intro x hx
    cases x with
    | tmp t => simp only [aEval, maskL_get, hfl t hx, if_true, Option.map_id', hF t (hlook t hx)]
    | _ => rfl
  refine hok _ κ _ act w _ _ hev ha' hpart (mask_exec hi hsel fm act hfl) ?_
  rintro _ _ v' w' κ' ⟨rfl, rfl⟩ hv hr' hs'
  have hn' := ext_none he hr hn
  obtain ⟨h1, h2⟩ := lay_step (x := x) hr hn hn' he hrel hr' hs'
  exact hK v' w' κ' _ hv hr' (hv.mono (fun b hb => (lay_has (Nat.lt_of_lt_of_le hr he.1) b).2 (.inr hb)) fun b hb => joinLoc_in hb) h1 h2
theorem op_new {i : Nat} {o : Oper} {F : List Value} {W : Mem} {v : Value} {r : Nat} {x : Blk} {κ : Nat → Loc} {act : Act} {w : World} (hi : ops[i]? = some o) (hsel : Region.noSelect ops = true) (hnil : o.op.operands = #[])
    (hr : r < W.size) (hn : ¬ W.Has r) (hx : x.own = true) (hok : OpOK P o [] (Mem.void r) v ((Mem.void r).push x))
    (ha : ARel W.Has κ F act) (hrel : Rel κ W w) {K : Act → World → Prop} {Q : Exit → Act → World → Prop}
    (hK : ∀ v' w' κ'', VRel (W.lay r x).Has κ'' v v' → Rel κ'' (W.lay r x) w' → Step κ W w κ'' (W.lay r x) w' → K (act.put o.dst v') w') :
    o.wp P act w K Q := by
  have ha' := mask_rel (q := (Mem.void r).Has) (fun _ => false) ha fun t ht => by cases ht
  refine hok _ κ _ act w _ _ (fun y hy => by rw [hnil] at hy; simp at hy) ha' (void_rel r hrel) (mask_exec hi hsel (fun _ => false) act fun t ht => by rw [hnil] at ht; simp at ht) ?_
  rintro _ _ v' w' κ' ⟨rfl, h9⟩ hv hr' hs'
  rw [h9] at hv hr' hs'
  obtain ⟨h1, h2⟩ := lay_new hr hn hx hrel hr' hs'
  refine hK v' w' _ (hv.mono (fun b hb => ?_) fun b hb => joinLoc_in hb) h1 h2
  rcases (push_has b).1 hb with h | h
  · exact absurd h (void_has r b)
  · rw [void_size] at h
    exact (lay_has hr b).2 (.inl h)
end
section
variable {P : Program} {ops : Array Oper} {a₀ : List Value} {v : Nat → Value}
structure Beside (P : Program) (ops : Array Oper) (a₀ : List Value) (v : Nat → Value) (W0 W1 W2 : Mem) (r : Nat) (x : Blk) (q1 z zd s q2 : Nat) : Prop where
  q1s : q1 < s
  s2 : s < q2
  zs : z < s
  zq : z ≠ q1
  bq : B ops s q1 = true
  bz : B ops s z = true
  opZ : ∃ o, ops[z]? = some o ∧ o.dst = some zd ∧ o.guard = none ∧ o.op.operands = #[] ∧ OpOK P o [] (Mem.void r) (v z) ((Mem.void r).push x)
  own : x.own = true
  opQ : ∃ o, ops[q1]? = some o ∧ o.guard = none ∧ OpOK P o (frB ops a₀ v q1) W0 (v q1) W1
  ext : Ext W0 W1
  opS : ∃ o, ops[s]? = some o ∧ o.guard = none ∧ OpOK P o (frB ops a₀ v s) (W1.lay r x) (v s) W2
  lt : r < W0.size
  gone : ¬ W0.Has r
  rest : ∀ i o, i < q2 → ops[i]? = some o → i ≠ q1 → i ≠ z → i ≠ s → o.guard = none ∧ ((∀ M, evOp P o.op (frB ops a₀ v i) M = some (v i, M)) ∨ (B ops q1 i = true ∧ evOp P o.op (frB ops a₀ v i) W0 = some (v i, W0)))
  free : ∀ i o, i < q2 → i ≠ s → ops[i]? = some o → zd ∉ o.looksAt ops
  dst : ∀ i, i < q2 → i ≠ z → (ops[i]?).bind (·.dst) ≠ some zd
theorem beside_run {W0 W1 W2 : Mem} {r : Nat} {x : Blk} {q1 z zd s q2 : Nat} (hq : drawOK ops q2 = true) (hqs : q2 ≤ ops.size) (hC : Beside P ops a₀ v W0 W1 W2 r x q1 z zd s q2)
    {Q : Exit → List Value → Mem → Prop} {ι₀ : Nat → Loc} {m₀ : Mem} {w₀ : World}
    (ht : aOps P ops.toList (Q .normal) (ops.toList.drop q2) (frameAt ops v allS a₀ q2) W2) : ∀ (fuel : Nat) (listed : Array Bool) (_ : listed.size = ops.size) (_ : leftN (getL listed) ops.size ≤ fuel)
    (_ : Down ops (getL listed)) (_ : ∀ j, q2 ≤ j → getL listed j = false) (W Z : Mem)
    (_ : (getL listed s = true ∧ Z = W2) ∨ (getL listed s = false ∧ (W = if getL listed q1 = true then W1 else W0) ∧ (Z = if getL listed z = true then W.lay r x else W) ∧ (∀ b y, W.get b = some y → ClBlk W.Has y) ∧
      (∀ t, t ≠ zd → ∀ y, (frameAt ops v (getL listed) a₀ q2)[t]? = some y → Cl W.Has y)))
    (κ : Nat → Loc) (act : Act) (w : World), ARel Z.Has κ (frameAt ops v (getL listed) a₀ q2) act → Rel κ Z w → Step ι₀ m₀ w₀ κ Z w → wpAny P .any ops (Post ι₀ m₀ w₀ Q) fuel listed act w := by
  have hq0 := hq
  simp only [drawOK, Bool.and_eq_true] at hq
  obtain ⟨⟨⟨hsel, hback⟩, hap⟩, hwait⟩ := hq
  intro fuel
  induction fuel with
  | zero =>
    intro listed hsz hfuel hdown hhi W Z hst κ act w ha hr hs
    have hall : ∀ j, j < q2 → getL listed j = true := fun j hj => left_none hfuel j (by omega)
    have hZ : Z = W2 := by
      rcases hst with ⟨_, h⟩ | ⟨h, _⟩
      · exact h
      · rw [hall s hC.s2] at h; cases h
    have hfr : frameAt ops v (getL listed) a₀ q2 = frameAt ops v allS a₀ q2 := by
      apply List.ext_getElem?
      intro t
      exact frameAt_get t q2 fun k hk _ => hall k hk
    rw [hfr, hZ] at ha
    rw [hZ] at hr hs
    refine tail_run hq0 _ q2 (Nat.le_refl _) rfl 0 listed hsz (fun j hj => ?_) hfuel _ _ ht κ act w hs ha hr
    rcases Nat.lt_or_ge j q2 with h | h
    · rw [hall j h]; simp [h]
    · rw [hhi j h]; simp; omega
  | succ fuel ih =>
    intro listed hsz hfuel hdown hhi W Z hst κ act w ha hr hs
    by_cases hall : ∀ j, j < q2 → getL listed j = true
    · have hZ : Z = W2 := by
        rcases hst with ⟨_, h⟩ | ⟨h, _⟩
        · exact h
        · rw [hall s hC.s2] at h; cases h
      have hfr : frameAt ops v (getL listed) a₀ q2 = frameAt ops v allS a₀ q2 := by
        apply List.ext_getElem?
        intro t
        exact frameAt_get t q2 fun k hk _ => hall k hk
      rw [hfr, hZ] at ha
      rw [hZ] at hr hs
      refine tail_run hq0 _ q2 (Nat.le_refl _) rfl (fuel + 1) listed hsz (fun j hj => ?_) hfuel _ _ ht κ act w hs ha hr
      rcases Nat.lt_or_ge j q2 with h | h
      · rw [hall j h]; simp [h]
      · rw [hhi j h]; simp; omega
    · have hex : ∃ j, j < q2 ∧ getL listed j = false := by
        rcases Classical.em (∃ j, j < q2 ∧ getL listed j = false) with h' | h'
        · exact h'
        · refine absurd (fun j hj => ?_) hall
          cases hg : getL listed j
          · exact absurd ⟨j, hj, hg⟩ h'
          · rfl
      obtain ⟨j, hj, hjf⟩ := hex
      refine ⟨fun hn => absurd hn (ready_some hsz hback ⟨j, by omega, hjf⟩), fun i hi => ?_⟩
      obtain ⟨hilt, hiu, oi, hoi, hallE⟩ := (ready_get hsz).1 hi
      have hiq : i < q2 := by
        rcases Nat.lt_or_ge i q2 with h | h
        · exact h
        · exfalso
          have := hdown.bef i oi hoi hallE j (waitAll_spec hwait hilt h (by omega))
          rw [hjf] at this; cases this
      have hsub : ∀ k, B ops i k = true → getL listed k = true := fun k hk => hdown.bef i oi hoi hallE k hk
      have hgl := getL_set (listed := listed) (i := i) (by omega)
      have hwaits : ∀ k o, ops[k]? = some o → getL listed k = true → B ops k i = false := fun k o ho hk => by
        cases hb : B ops k i
        · rfl
        · have := hdown.bef k o ho (hdown k o ho hk) i hb
          rw [hiu] at this; cases this
      have hslot : ∀ t, t ∈ oi.looksAt ops → (frameAt ops v (getL listed) a₀ q2)[t]? = (frB ops a₀ v i)[t]? := slot_of hap hqs hdown hoi hiq hiu hsub
      -- how it goes on
      have next : ∀ (Z' W' : Mem) (κ' : Nat → Loc) (v' : Value) (w' : World), VRel Z'.Has κ' (v i) v' → Rel κ' Z' w' → Step κ Z w κ' Z' w' →
          ((getL (listed.setIfInBounds i true) s = true ∧ Z' = W2) ∨ (getL (listed.setIfInBounds i true) s = false ∧ (W' = if getL (listed.setIfInBounds i true) q1 = true then W1 else W0) ∧ (Z' = if getL (listed.setIfInBounds i true) z = true then W'.lay r x else W') ∧
            (∀ b y, W'.get b = some y → ClBlk W'.Has y) ∧ (∀ t, t ≠ zd → ∀ y, (aPut (frameAt ops v (getL listed) a₀ q2) oi.dst (v i))[t]? = some y → Cl W'.Has y))) →
          wpAny P .any ops (Post ι₀ m₀ w₀ Q) fuel (listed.setIfInBounds i true) (act.put oi.dst v') w' := by
        intro Z' W' κ' v' w' hv hr' hs' hst'
        have ha' : ARel Z'.Has κ' (aPut (frameAt ops v (getL listed) a₀ q2) oi.dst (v i)) (act.put oi.dst v') := (ha.mono hs'.grows hs'.at_).put' oi.dst hv
        have hfr : frameAt ops v (getL (listed.setIfInBounds i true)) a₀ q2 = aPut (frameAt ops v (getL listed) a₀ q2) oi.dst (v i) := by
          rw [hgl, frameAt_add hiu q2 hiq fun k h2 h3 hk t ht' hkt => ?_]
          · rw [hoi]; rfl
          · have hkk : ops[k]? = some ops[k] := Array.getElem?_eq_getElem (by omega)
            rw [hoi] at ht'
            rw [hkk] at hkt
            exact (Oper.apart_spec (apartAll_spec hap h2 h3 hoi hkk (hwaits k _ hkk hk))).2.1 t ht' hkt
        refine ih _ (by simp [hsz]) ?_ ?_ (fun k hk => ?_) W' Z' (by rw [hfr]; exact hst') κ' _ w' (by rw [hfr]; exact ha') hr' (hs.trans hs')
        · have := leftN_add hiu ops.size hilt
          rw [hgl]
          omega
        · rw [hgl]
          intro k ok hk hSk e he hb
          simp only [Bool.or_eq_true, beq_iff_eq] at hSk ⊢
          rcases hSk with hSk | rfl
          · exact .inl (hdown k ok hk hSk e he hb)
          · rw [hoi] at hk; cases hk
            exact .inl (hallE e he hb)
        · rw [hgl]
          have : (k == i) = false := by simp; omega
          simp [hhi k hk, this]
      have gl : ∀ k, getL (listed.setIfInBounds i true) k = (getL listed k || k == i) := fun k => by rw [hgl]
      -- an operation that runs as it stands
      have direct : ∀ (Z' : Mem), oi.guard = none → OpOK P oi (frB ops a₀ v i) Z (v i) Z' → (∀ (κ' : Nat → Loc) (v' : Value) (w' : World), VRel Z'.Has κ' (v i) v' → Rel κ' Z' w' → Step κ Z w κ' Z' w' → wpAny P .any ops (Post ι₀ m₀ w₀ Q) fuel (listed.setIfInBounds i true) (act.put oi.dst v') w') →
          wpOp P ops (Post ι₀ m₀ w₀ Q) i (fun act w => wpAny P .any ops (Post ι₀ m₀ w₀ Q) fuel (listed.setIfInBounds i true) act w) act w := by
        intro Z' hg hei hk
        unfold wpOp
        simp only [hoi]
        rw [wanted_free hg]
        left
        refine hei (frameAt ops v (getL listed) a₀ q2) κ act act w _ _ (fun x hx => (ev_looks (o := oi) hslot x hx).symm) ha hr rfl ?_
        rintro u m' v' w' κ' ⟨h8, h9⟩ hv hr' hs'
        subst h8
        subst h9
        exact hk κ' v' w' hv hr' hs'
      rcases hst with ⟨hsl, hZ⟩ | ⟨hsf, hW, hZW, hcB, hcV⟩
      · -- behind the store
        obtain ⟨os, hos, _⟩ := hC.opS
        have hl1 : getL listed q1 = true := hdown.bef s os hos (hdown s os hos hsl) q1 hC.bq
        have hlz : getL listed z = true := hdown.bef s os hos (hdown s os hos hsl) z hC.bz
        have n1 : i ≠ q1 := fun e => by rw [e, hl1] at hiu; cases hiu
        have n2 : i ≠ z := fun e => by rw [e, hlz] at hiu; cases hiu
        have n3 : i ≠ s := fun e => by rw [e, hsl] at hiu; cases hiu
        obtain ⟨hg, he⟩ := hC.rest i oi hiq hoi n1 n2 n3
        have he2 : ∀ M, evOp P oi.op (frB ops a₀ v i) M = some (v i, M) := by
          rcases he with he | ⟨hb, _⟩
          · exact he
          · obtain ⟨oq, hoq, _⟩ := hC.opQ
            have := hdown.bef q1 oq hoq (hdown q1 oq hoq hl1) i hb
            rw [hiu] at this; cases this
        refine direct Z hg (OpSim.op (he2 Z) ⟨rfl, rfl⟩) fun κ' v' w' hv hr' hs' => next Z W κ' v' w' hv hr' hs' (.inl ⟨by rw [gl, hsl]; rfl, hZ⟩)
      · have hrW : r < W.size ∧ ¬ W.Has r := by
          rw [hW]
          split
          · exact ⟨Nat.lt_of_lt_of_le hC.lt hC.ext.1, ext_none hC.ext hC.lt hC.gone⟩
          · exact ⟨hC.lt, hC.gone⟩
        by_cases e1 : i = s
        · -- the store
          have hb1 := hsub q1 (by rw [e1]; exact hC.bq)
          have hb2 := hsub z (by rw [e1]; exact hC.bz)
          rw [if_pos hb1] at hW
          rw [if_pos hb2, hW] at hZW
          obtain ⟨os, hos, hg, hok⟩ := hC.opS
          rw [← e1, hoi] at hos
          cases hos
          rw [← hZW, ← e1] at hok
          exact direct W2 hg hok fun κ' v' w' hv hr' hs' => next W2 W κ' v' w' hv hr' hs' (.inl ⟨by rw [gl, ← e1]; simp, rfl⟩)
        · have hs' : getL (listed.setIfInBounds i true) s = false := by
            rw [gl, hsf]
            have : (s == i) = false := by simp; exact fun e => e1 e.symm
            simp [this]
          by_cases e2 : i = z
          · -- the block
            obtain ⟨oz, hoz, hd, hg, hnil, hok⟩ := hC.opZ
            rw [← e2, hoi] at hoz
            cases hoz
            rw [← e2] at hok
            have hzf : getL listed z = false := by rw [← e2]; exact hiu
            have hZW : Z = W := by rw [hZW, if_neg (by rw [hzf]; decide)]
            subst hZW
            unfold wpOp
            simp only [hoi]
            rw [wanted_free hg]
            left
            refine op_new hoi hsel hnil hrW.1 hrW.2 hC.own hok ha hr fun v' w' κ' hv hr' hst => next _ Z κ' v' w' hv hr' hst (.inr ⟨hs', ?_, ?_, hcB, fun t ht y hy => ?_⟩)
            · rw [gl]
              have : (q1 == i) = false := by simp; rw [e2]; exact fun e => hC.zq e.symm
              rw [this, Bool.or_false]
              exact hW
            · rw [gl, if_pos (by rw [e2]; simp)]
            · rw [hd, aPut_get _ _ _ _ (by intro e; exact ht (Option.some.inj e).symm)] at hy
              exact hcV t ht y hy
          · -- what does not look at the block
            have key : ∃ W', oi.guard = none ∧ OpOK P oi (frB ops a₀ v i) W (v i) W' ∧ Ext W W' ∧ (W' = if getL (listed.setIfInBounds i true) q1 = true then W1 else W0) := by
              by_cases e3 : i = q1
              · obtain ⟨oq, hoq, hg, hok⟩ := hC.opQ
                rw [← e3, hoi] at hoq
                cases hoq
                rw [← e3] at hok
                rw [if_neg (by rw [← e3, hiu]; decide)] at hW
                rw [hW]
                exact ⟨W1, hg, hok, hC.ext, by rw [gl, if_pos (by rw [e3]; simp)]⟩
              · obtain ⟨hg, he⟩ := hC.rest i oi hiq hoi e3 e2 e1
                refine ⟨W, hg, ?_, Ext.refl _, ?_⟩
                · rcases he with he | ⟨hb, he⟩
                  · exact OpSim.op (he W) ⟨rfl, rfl⟩
                  · have : getL listed q1 = false := by
                      cases hl : getL listed q1
                      · rfl
                      · obtain ⟨oq, hoq, _⟩ := hC.opQ
                        rw [hwaits q1 oq hoq hl] at hb; cases hb
                    rw [if_neg (by rw [this]; decide)] at hW
                    rw [hW]
                    exact OpSim.op he ⟨rfl, rfl⟩
                · rw [gl]
                  have : (q1 == i) = false := by simp; exact fun e => e3 e.symm
                  rw [this, Bool.or_false]
                  exact hW
            obtain ⟨W', hg, hok, hext, hW'⟩ := key
            have hzg : getL (listed.setIfInBounds i true) z = getL listed z := by
              rw [gl]
              have : (z == i) = false := by simp; exact fun e => e2 e.symm
              rw [this, Bool.or_false]
            have grows : ∀ b, W.Has b → W'.Has b := fun b ⟨o, ho⟩ => by
              have hlt := (List.getElem?_eq_some_iff.1 ho).1
              rcases hext.2.1 b hlt with h | ⟨_, o', h, _⟩
              · exact ⟨o, by rw [h, ho]⟩
              · exact ⟨o', h⟩
            have closed : ∀ {κ' : Nat → Loc} {v' : Value}, VRel W'.Has κ' (v i) v' → ∀ t, t ≠ zd → ∀ y, (aPut (frameAt ops v (getL listed) a₀ q2) oi.dst (v i))[t]? = some y → Cl W'.Has y := fun hv t ht y hy => by
              rcases aPut_from hy with rfl | h
              · exact hv.cl
              · exact (hcV t ht y h).mono grows
            cases hzl : getL listed z with
            | false =>
              rw [if_neg (by rw [hzl]; decide)] at hZW
              subst hZW
              refine direct W' hg hok fun κ' v' w' hv hr' hst => next W' W' κ' v' w' hv hr' hst (.inr ⟨hs', hW', ?_, hr'.clBlk, closed hv⟩)
              rw [hzg, hzl]; rfl
            | true =>
              rw [if_pos hzl] at hZW
              subst hZW
              unfold wpOp
              simp only [hoi]
              rw [wanted_free hg]
              left
              refine op_lay hoi hsel hok hext hrW.1 hrW.2 hcB (fun t ht y hy => hcV t (fun e => hC.free i oi hiq e1 hoi (by rw [← e]; exact ht)) y hy) hslot ha hr fun v' w' κ1 κ' hv1 hr1 hv hr' hst => next _ W' κ' v' w' hv hr' hst (.inr ⟨hs', hW', ?_, hr1.clBlk, closed hv1⟩)
              rw [hzg, hzl]; rfl
theorem AW_beside {id : Nat} {m : Mem} {Q : Exit → List Value → Mem → Prop} (hmix : P.follows .mixedOrders = true) {W1 W2 : Mem} {x : Blk} {q1 z zd s q2 : Nat} (hq : drawOK ops q2 = true) (hqs : q2 ≤ ops.size)
    (hC : Beside P ops a₀ v ⟨m.blks ++ [none]⟩ W1 W2 m.size x q1 z zd s q2)
    (ht : aOps P ops.toList (Q .normal) (ops.toList.drop q2) (frameAt ops v allS a₀ q2) W2) : AW P (.region id ops true) Q a₀ m := by
  intro ι₀ m₀ w₀ ι act w hs ha hr
  refine wp_region_any hmix ?_
  have hr' : Rel ι m { w with drawn := w.drawn + 1 } := ⟨hr.at', hr.oth, hr.inj, ⟨hr.glob.known.keep fun _ _ => rfl, hr.glob.own⟩⟩
  have hs' : Step ι₀ m₀ w₀ ι m { w with drawn := w.drawn + 1 } := ⟨hs.os, hs.tape, hs.output, hs.size, hs.grows, hs.at_, hs.block, hs.own⟩
  have hcl : ∀ (t : Nat) (x : Value), a₀[t]? = some x → Cl m.Has x := fun t x hx => by
    obtain ⟨y, _, hy⟩ := ha.tmps.get hx
    exact hy.cl
  have hmc := hr.clBlk
  have hgl : getL (Array.replicate ops.size false) = fun _ => false := by
    funext k
    unfold getL
    rw [Array.getD_eq_getD_getElem?, Array.getElem?_replicate]
    split <;> rfl
  have hfr : ∀ n, frameAt ops v (fun _ => false) a₀ n = a₀ := by
    intro n
    induction n with
    | zero => rfl
    | succ n ih => simp [frameAt, ih]
  obtain ⟨W0, hW0⟩ : ∃ W0 : Mem, W0 = ⟨m.blks ++ [none]⟩ := ⟨_, rfl⟩
  rw [← hW0] at hC
  have hbl : ∀ (b : Nat) (o : Option Blk), W0.blks[b]? = some (some o) ↔ m.blks[b]? = some (some o) := fun b o => by
    rw [hW0]
    show (m.blks ++ [none])[b]? = _ ↔ _
    rw [List.getElem?_append]
    split
    · exact Iff.rfl
    · rename_i h
      rw [List.getElem?_eq_none (l := m.blks) (by omega)]
      constructor
      · intro h2
        rw [List.getElem?_singleton] at h2
        split at h2 <;> cases h2
      · intro h2; cases h2
  have hg : ∀ b, W0.get b = m.get b := fun b => by
    cases h1 : m.get b with
    | some y => exact (get_iff _ _ _).2 ((hbl b _).2 ((get_iff _ _ _).1 h1))
    | none =>
      cases h2 : W0.get b with
      | none => rfl
      | some y => rw [(get_iff _ _ _).2 ((hbl b _).1 ((get_iff _ _ _).1 h2))] at h1; cases h1
  have hh : ∀ b, W0.Has b ↔ m.Has b := fun b => ⟨fun ⟨o, ho⟩ => ⟨o, (hbl b o).1 ho⟩, fun ⟨o, ho⟩ => ⟨o, (hbl b o).2 ho⟩⟩
  have hcB : ∀ b y, W0.get b = some y → ClBlk W0.Has y := fun b y hb => by
    rw [hg] at hb
    exact (hmc b y hb).mono fun b hb => (hh b).2 hb
  have hrel : Rel ι W0 { w with drawn := w.drawn + 1 } := hr'.part (fun b y hb => by rw [← hg]; exact hb) hcB
  have hown : ∀ b, W0.Own b ↔ m.Own b := fun b => ⟨fun ⟨y, h1, h2⟩ => ⟨y, by rw [← hg]; exact h1, h2⟩, fun ⟨y, h1, h2⟩ => ⟨y, by rw [hg]; exact h1, h2⟩⟩
  refine beside_run hq hqs hC ht ops.size _ (by simp) (by rw [hgl, leftN_none]; exact Nat.le_refl _) (by rw [hgl]; intro k o _ h; cases h) (fun j _ => by rw [hgl]) W0 W0 (.inr ⟨by rw [hgl], by rw [hgl]; rfl, by rw [hgl]; rfl, hcB, fun t _ y hy => ?_⟩) ι act _ ?_ hrel ?_
  · rw [hgl, hfr] at hy
    exact (hcl t y hy).mono fun b hb => (hh b).2 hb
  · rw [hgl, hfr]
    exact ha.mono (fun b hb => (hh b).2 hb) fun _ _ => rfl
  · refine hs'.trans ⟨rfl, rfl, rfl, Nat.le_refl _, fun b hb => (hh b).2 hb, fun _ _ => rfl, fun _ _ _ => rfl, fun b hb => .inr ⟨b, (hown b).1 hb, rfl⟩⟩
end
end
end Go.Proofs.YtkifimkcmfglmaaGreatDoor.Abs
