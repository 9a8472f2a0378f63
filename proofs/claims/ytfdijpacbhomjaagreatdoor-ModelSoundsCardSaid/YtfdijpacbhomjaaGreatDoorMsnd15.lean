/-
  The walks of slices.Index of nil, among a depot's pointers.
  The walk of places.
  The walk of fits.
  The walk of blocks.
  The walk of Read.
  A region that draws its order, in whose head a call may make blocks.
  Headers, compared.
  Headers that came in, read off the abstract memory.
  An archive that came in.
-/
import Derived.Test.YtfdijpacbhomjaaGreatDoorMsnd14
import Derived.Test.YtfdijpacbhomjaaGreatDoorMsnd11
import Derived.Test.YtfdijpacbhomjaaGreatDoorMsnd13
import Derived.Test.YtfdijpacbhomjaaGreatDoorMsnd09
import Derived.Test.YtfdijpacbhomjaaGreatDoorMsnd10
set_option linter.all false
namespace Go.Proofs.YtfdijpacbhomjaaGreatDoor
open Go.RowKit Abs
abbrev ArcX := Header × Value × List ByteArray
def arcX (x : ArcX) : List Value := (archC x.1 x.2.1).toList
theorem arcX_len (x : ArcX) : (arcX x).length = 8 := rfl
def AxR (M : Mem) (V : Value) (L : List ArcX) : Prop := Rd M 8 V L.length (L.flatMap arcX) ∧ ∀ x ∈ L, BlR M x.2.1 x.2.2 ∧ x.2.2.length ≤ 140737488355327
theorem rd_mono {M M' : Mem} {n k : Nat} {V : Value} {cs : List Value} (h : Rd M n V k cs) (hs : ∀ b x, M.get b = some x → M'.get b = some x) : Rd M' n V k cs := by
  obtain ⟨a, c, h1, h2, h3, h4, h5, h6⟩ := h
  refine ⟨a, c, h1, h2, h3, h4, h5, fun p hp => ?_⟩
  obtain ⟨b, h7, h8⟩ := h6 p hp
  refine ⟨b, h7, fun hk => ?_⟩
  obtain ⟨ro, h9⟩ := h8 hk
  exact ⟨ro, hs _ _ h9⟩
theorem AxR.same {M M' : Mem} {V : Value} {L : List ArcX} (h : AxR M V L) (hs : ∀ b x, M.get b = some x → M'.get b = some x) : AxR M' V L :=
  ⟨rd_mono h.1 hs, fun x hx => ⟨(h.2 x hx).1.same hs, (h.2 x hx).2⟩⟩
theorem AxR.len {M : Mem} {V : Value} {L : List ArcX} (h : AxR M V L) : ∃ a c, V = .slice a L.length c := by
  obtain ⟨a, c, h1, _⟩ := h.1
  exact ⟨a, c, h1⟩
theorem row_at {α : Type} (f : α → List Value) (n : Nat) (hf : ∀ x, (f x).length = n) {L : List α} {i : Nat} {x : α} (hx : L[i]? = some x) (ro : Bool) (s : Nat) : rowIn n (i * n) (some (.cells ro s (L.flatMap f))) = some (.agg (f x).toArray) := by
  have h1 := flatMap_at f n L i x (fun x _ => hf x) hx
  have h2 := flatMap_len f n L fun x _ => hf x
  have hi : i < L.length := by rcases Nat.lt_or_ge i L.length with h | h; exact h; rw [List.getElem?_eq_none h] at hx; cases hx
  have h3 : i * n + n ≤ (L.flatMap f).length := by
    rw [h2]
    have := Nat.mul_le_mul_right n (show i + 1 ≤ L.length by omega)
    rw [Nat.succ_mul] at this
    exact this
  show (if i * n + n ≤ (L.flatMap f).length then some (Value.agg (((L.flatMap f).drop (i * n)).take n).toArray) else none) = _
  rw [if_pos h3, h1]
theorem cell_at {α : Type} (f : α → List Value) (n : Nat) (hf : ∀ x, (f x).length = n) {L : List α} {i : Nat} {x : α} (hx : L[i]? = some x) (k : Nat) (hk : k < n) (ro : Bool) (s : Nat) : cellIn (i * n + k) (some (.cells ro s (L.flatMap f))) = (f x)[k]? := by
  have h1 := flatMap_at f n L i x (fun x _ => hf x) hx
  show (L.flatMap f)[i * n + k]? = _
  rw [← h1, List.getElem?_take, if_pos hk, List.getElem?_drop]
theorem AxR.at {M : Mem} {a : Option Addr} {c : Nat} {L : List ArcX} (h : AxR M (.slice a L.length c) L) {i : Nat} {x : ArcX} (hx : L[i]? = some x) :
    ∃ g ro, a = some ⟨g, 0, none⟩ ∧ M.get g = some (.cells ro 8 (L.flatMap arcX)) := by
  have hi : i < L.length := by rcases Nat.lt_or_ge i L.length with h | h; exact h; rw [List.getElem?_eq_none h] at hx; cases hx
  obtain ⟨b, ro, h1, h2⟩ := Rd.at h.1 (by omega)
  exact ⟨b, ro, h1, h2⟩
def IsFirst (L : List ArcX) (id : Int) : Option Nat → Prop
  | some i => ∃ x, L[i]? = some x ∧ x.1.id = id ∧ ∀ k y, k < i → L[k]? = some y → y.1.id ≠ id
  | none => ∀ (k : Nat) y, L[k]? = some y → y.1.id ≠ id
def placeO : Option Nat → Int | some i => (i : Int) | none => -1
set_option maxRecDepth 100000 in
set_option maxHeartbeats 2000000 in
theorem isid_spec (h : Header) (a : Option Addr) (n c : Nat) (b s : Nat) (ro : Bool) (id : Int) (M : Mem) (hb : M.get b = some (.cells ro s [.int .i64 id])) :
    Abs.Spec Tryz.prog 76 [.agg (archC h (.slice a n c)), .pointer (some ⟨b, 0, none⟩)] M fun u M' => u = .bool (decide (h.id = id)) ∧ More M M' := by
  have bx : nBox Tryz.prog 93 (.agg (archC h (.slice a n c))) = some (.cells false (aStride Tryz.prog 93) (archC h (.slice a n c)).toList) := bx_Arc _ rfl
  generalize aStride Tryz.prog 93 = s3 at bx
  have k0 : cellIn 0 (some (.cells false s3 (archC h (.slice a n c)).toList)) = some (.int .i64 h.id) := rfl
  have c2 : cellIn 0 (some (.cells ro s [.int .i64 id])) = some (.int .i64 id) := rfl
  have mo := More.push M (.cells false s3 (archC h (.slice a n c)).toList)
  have hb2 := mo.get _ _ hb
  have e : (h.id == id) = decide (h.id = id) := by rw [Bool.eq_iff_iff]; simp
  refine Abs.Spec.walkM Tryz.func76 (by rfl) _ Tryz.results76 _ Tryz.ntmps76 (by simp) ?_
  intro _ _ _
  refine CW_seq (CW_region ?_)
  simp only [zZ, reduceIte, Nat.reduceLT, Int.reduceToNat, Int.reduceLE, Int.reduceEq, Int.reduceLT, Nat.reduceEqDiff, Nat.reduceAdd, zDk, pd_eql, pd_neq, pd_eql0, pd_neq0, zPt, bx]
  refine CW_seq (CW_region ?_)
  simp only [zZ, reduceIte, Nat.reduceLT, Int.reduceToNat, Int.reduceLE, Int.reduceEq, Int.reduceLT, Nat.reduceEqDiff, Nat.reduceAdd, zDk, pd_eql, pd_neq, pd_eql0, pd_neq0, zPt, Mem.get_push_new, k0, hb2, c2, e]
  refine CW_ret ?_
  simp only [zZ, reduceIte, Nat.reduceLT, Int.reduceToNat, Int.reduceLE, Int.reduceEq, Int.reduceLT, Nat.reduceEqDiff, Nat.reduceAdd, zDk, pd_eql, pd_neq, pd_eql0, pd_neq0, zPt, mEnd, sAnswer, sAnswer.sRes]
  exact ⟨_, Thin.refl _, mo⟩
set_option maxRecDepth 100000 in
set_option maxHeartbeats 4000000 in
theorem idxarc_spec (L : List ArcX) (hl : L.length ≤ 140737488355327) (M : Mem) (V : Value) (hL : AxR M V L) (b s : Nat) (ro : Bool) (id : Int) (hb : M.get b = some (.cells ro s [.int .i64 id])) :
    Abs.Spec Tryz.prog 75 [V, .func (.func 76) #[] #[.pointer (some ⟨b, 0, none⟩)]] M fun u M' => (∃ r, IsFirst L id r ∧ u = .int .i64 (placeO r)) ∧ More M M' := by
  obtain ⟨p, c, rfl⟩ := hL.len
  refine Abs.Spec.walkM Tryz.func75 (by rfl) _ Tryz.results75 _ Tryz.ntmps75 (by simp) ?_
  intro _ _ _
  refine CW_seq (CW_region ?_)
  simp only [zZ, reduceIte, Nat.reduceLT, Int.reduceToNat, Int.reduceLE, Int.reduceEq, Int.reduceLT, Nat.reduceEqDiff, Nat.reduceAdd, zDk, pd_eql, pd_neq, pd_eql0, pd_neq0, zPt]
  refine MW_mid (fun f M' => f = [] ∧ IsFirst L id none ∧ More M M') ?_ ?_
  · refine CW_seq (CW_region ?_)
    simp only [zZ, reduceIte, Nat.reduceLT, Int.reduceToNat, Int.reduceLE, Int.reduceEq, Int.reduceLT, Nat.reduceEqDiff, Nat.reduceAdd, zDk, pd_eql, pd_neq, pd_eql0, pd_neq0, zPt]
    refine CW_block (MW_loop (fun j f M' => ∃ i : Nat, j = L.length - i ∧ f = [(0, .slice p L.length c), (1, .func (.func 76) #[] #[.pointer (some ⟨b, 0, none⟩)]), (7, .int .i64 (L.length : Nat)), (8, .int .i64 (i : Nat))] ∧ i ≤ L.length ∧
      (∀ (k : Nat) y, k < i → L[k]? = some y → y.1.id ≠ id) ∧ More M M') L.length ?_ ?_)
    · refine ⟨[0, 1, 7, 8], ?_⟩
      simp only [zZ, reduceIte, Nat.reduceLT, Int.reduceToNat, Int.reduceLE, Int.reduceEq, Int.reduceLT, Nat.reduceEqDiff, Nat.reduceAdd, keepF]
      exact ⟨M, Thin.refl _, 0, rfl, rfl, by omega, fun k o hk => by omega, More.refl _⟩
    · rintro j f M' ⟨i, rfl, rfl, hi, hno, mo⟩
      refine CW_seq (CW_region ?_)
      simp only [zZ, reduceIte, Nat.reduceLT, Int.reduceToNat, Int.reduceLE, Int.reduceEq, Int.reduceLT, Nat.reduceEqDiff, Nat.reduceAdd, zDk, pd_eql, pd_neq, pd_eql0, pd_neq0, zPt]
      refine CW_seq (CW_cond (decide ((i : Int) < (L.length : Int))) (by rfl) (fun hq => CW_skip ?_) (fun hq => CW_exit ?_))
      · have hiL := of_decide_eq_true hq
        obtain ⟨x, hx⟩ : ∃ x, L[i]? = some x := ⟨_, List.getElem?_eq_getElem (by omega)⟩
        have hL' := hL.same mo.get
        obtain ⟨g, ro', rfl, hg⟩ := hL'.at hx
        obtain ⟨xa, xc, hxv⟩ := (hL'.2 x (List.mem_of_getElem? hx)).1.len
        have rw8 := row_at arcX 8 arcX_len hx ro' 8
        have rw8 : rowIn 8 (i * 8) (some (.cells ro' 8 (L.flatMap arcX))) = some (.agg (archC x.1 (.slice xa x.2.2.length xc))) := by rw [rw8, ← hxv]; rfl
        have z0 : (0 : Int) ≤ (i : Int) := by omega
        have w9 : IntKind.i64.wrap ((i : Int) + 1) = ((i + 1 : Nat) : Int) := by rw [wri (by omega) (by omega)]; omega
        simp only [zZ, reduceIte, Nat.reduceLT, Int.reduceToNat, Int.reduceLE, Int.reduceEq, Int.reduceLT, Nat.reduceEqDiff, Nat.reduceAdd, zDk, pd_eql, pd_neq, pd_eql0, pd_neq0, zPt]
        refine CW_seq (CW_block (CW_seq (CW_region ?_)))
        simp only [zZ, reduceIte, Nat.reduceLT, Int.reduceToNat, Int.reduceLE, Int.reduceEq, Int.reduceLT, Nat.reduceEqDiff, Nat.reduceAdd, zDk, pd_eql, pd_neq, pd_eql0, pd_neq0, zPt]
        refine CW_seq (CW_region ?_)
        simp only [zZ, reduceIte, Nat.reduceLT, Int.reduceToNat, Int.reduceLE, Int.reduceEq, Int.reduceLT, Nat.reduceEqDiff, Nat.reduceAdd, zDk, pd_eql, pd_neq, pd_eql0, pd_neq0, zPt, z0, hiL, and_self, hg, Int.toNat_natCast, rw8]
        refine ⟨by kernel_rfl, _, isid_spec x.1 xa x.2.2.length xc b s ro id M' (mo.get _ _ hb), ?_⟩
        rintro _ M2 ⟨rfl, mo2⟩
        simp only [zZ, reduceIte, Nat.reduceLT, Int.reduceToNat, Int.reduceLE, Int.reduceEq, Int.reduceLT, Nat.reduceEqDiff, Nat.reduceAdd, zDk, pd_eql, pd_neq, pd_eql0, pd_neq0, zPt]
        refine CW_cond (decide (x.1.id = id)) (by rfl) (fun he => CW_seq (CW_region ?_)) (fun he => CW_skip ?_)
        · simp only [zZ, reduceIte, Nat.reduceLT, Int.reduceToNat, Int.reduceLE, Int.reduceEq, Int.reduceLT, Nat.reduceEqDiff, Nat.reduceAdd, zDk, pd_eql, pd_neq, pd_eql0, pd_neq0, zPt]
          refine CW_ret ?_
          simp only [zZ, reduceIte, Nat.reduceLT, Int.reduceToNat, Int.reduceLE, Int.reduceEq, Int.reduceLT, Nat.reduceEqDiff, Nat.reduceAdd, zDk, pd_eql, pd_neq, pd_eql0, pd_neq0, zPt, mEnd, sAnswer, sAnswer.sRes]
          exact ⟨_, Thin.refl _, ⟨some i, ⟨x, hx, of_decide_eq_true he, hno⟩, rfl⟩, mo.trans mo2⟩
        · simp only [zZ, reduceIte, Nat.reduceLT, Int.reduceToNat, Int.reduceLE, Int.reduceEq, Int.reduceLT, Nat.reduceEqDiff, Nat.reduceAdd, zDk, pd_eql, pd_neq, pd_eql0, pd_neq0, zPt]
          refine CW_region ?_
          simp only [zZ, reduceIte, Nat.reduceLT, Int.reduceToNat, Int.reduceLE, Int.reduceEq, Int.reduceLT, Nat.reduceEqDiff, Nat.reduceAdd, zDk, pd_eql, pd_neq, pd_eql0, pd_neq0, zPt, w9]
          refine ⟨[0, 1, 7, 8], ?_⟩
          simp only [zZ, reduceIte, Nat.reduceLT, Int.reduceToNat, Int.reduceLE, Int.reduceEq, Int.reduceLT, Nat.reduceEqDiff, Nat.reduceAdd, keepF]
          refine ⟨_, Thin.refl _, L.length - (i + 1), ⟨i + 1, rfl, rfl, by omega, fun k y hk hy => ?_, mo.trans mo2⟩, by omega⟩
          by_cases e : k = i
          · subst e; rw [hx] at hy; cases hy; exact of_decide_eq_false he
          · exact hno k y (by omega) hy
      · have hiL := of_decide_eq_false hq
        simp only [zZ, reduceIte, Nat.reduceLT, Int.reduceToNat, Int.reduceLE, Int.reduceEq, Int.reduceLT, Nat.reduceEqDiff, Nat.reduceAdd, zDk, pd_eql, pd_neq, pd_eql0, pd_neq0, zPt]
        refine ⟨[], ?_⟩
        simp only [zZ, reduceIte, Nat.reduceLT, Int.reduceToNat, Int.reduceLE, Int.reduceEq, Int.reduceLT, Nat.reduceEqDiff, Nat.reduceAdd, keepF]
        exact ⟨_, Thin.refl _, fun k y hy => hno k y (by have := (List.getElem?_eq_some_iff.1 hy).1; omega) hy, mo⟩
  · rintro f M1 ⟨rfl, hn, mo⟩
    refine CW_seq (CW_region ?_)
    simp only [zZ, reduceIte, Nat.reduceLT, Int.reduceToNat, Int.reduceLE, Int.reduceEq, Int.reduceLT, Nat.reduceEqDiff, Nat.reduceAdd, zDk, pd_eql, pd_neq, pd_eql0, pd_neq0, zPt]
    refine CW_ret ?_
    simp only [zZ, reduceIte, Nat.reduceLT, Int.reduceToNat, Int.reduceLE, Int.reduceEq, Int.reduceLT, Nat.reduceEqDiff, Nat.reduceAdd, zDk, pd_eql, pd_neq, pd_eql0, pd_neq0, zPt, mEnd, sAnswer, sAnswer.sRes]
    exact ⟨_, Thin.refl _, ⟨none, hn, rfl⟩, mo⟩
def FoundX (L : List ArcX) (id : Int) (u : Value) : Prop := ∃ r, IsFirst L id r ∧ match r with
  | some i => ∃ x, L[i]? = some x ∧ u = .tuple #[.agg (archC x.1 x.2.1), .bool true]
  | none => u = .tuple #[.agg (archC noHead (.slice none 0 0)), .bool false]
set_option maxRecDepth 100000 in
set_option maxHeartbeats 4000000 in
theorem mfind_spec (L : List ArcX) (hl : L.length ≤ 140737488355327) (M : Mem) (V : Value) (hL : AxR M V L) (id : Int) :
    Abs.Spec Tryz.prog 42 [V, .int .i64 id] M fun u M' => FoundX L id u ∧ More M M' := by
  obtain ⟨p, c, rfl⟩ := hL.len
  have bi : nBox Tryz.prog 3 (.int .i64 id) = some (.cells false (aStride Tryz.prog 3) [.int .i64 id]) := by rfl
  generalize aStride Tryz.prog 3 = s1 at bi
  have halA : nAlloc Tryz.prog 93 = some (.cells false (aStride Tryz.prog 93) (archC noHead (.slice none 0 0)).toList) := al_Arc
  generalize aStride Tryz.prog 93 = s3 at halA
  have hbd0 : aBuild Tryz.prog 93 [] = some (.agg (archC noHead (.slice none 0 0))) := by kernel_rfl
  have row8 : ∀ (s : Nat) (h : Header) V, rowIn 8 0 (some (.cells false s (archC h V).toList)) = some (.agg (archC h V)) := fun _ _ _ => rfl
  have agg8 : ∀ h V, (Value.agg (archC h V)).cells.toList = (archC h V).toList := fun _ _ => rfl
  have put8 : ∀ (M0 : Mem) (b : Nat) (h h' : Header) (V : Value) (a : Option Addr) (n c : Nat), putIn 8 M0 b 0 (archC h' (.slice a n c)).toList (some (.cells false s3 (archC h V).toList)) = some (M0.set b (some (.cells false s3 (archC h' (.slice a n c)).toList))) := fun _ _ _ _ _ _ _ _ => rfl
  obtain ⟨b3, hb3⟩ : ∃ b, b = M.size := ⟨_, rfl⟩
  obtain ⟨M1, hM1⟩ : ∃ M1, M1 = M.push (.cells false s1 [.int .i64 id]) := ⟨_, rfl⟩
  have z1 : M1.size = M.size + 1 := by rw [hM1, Mem.size_push]
  have g3 : M1.get b3 = some (.cells false s1 [.int .i64 id]) := by rw [hM1, hb3, Mem.get_push_new]
  obtain ⟨b4, hb4⟩ : ∃ b, b = M1.size := ⟨_, rfl⟩
  obtain ⟨M2, hM2⟩ : ∃ M2, M2 = M1.push (.cells false s3 (archC noHead (.slice none 0 0)).toList) := ⟨_, rfl⟩
  have g4 : M2.get b4 = some (.cells false s3 (archC noHead (.slice none 0 0)).toList) := by rw [hM2, hb4, Mem.get_push_new]
  have mo12 : More M1 M2 := by rw [hM2]; exact More.push _ _
  have mo2 : More M M2 := (by rw [hM1]; exact More.push _ _ : More M M1).trans mo12
  have g32 := mo12.get _ _ g3
  have hL2 := hL.same mo2.get
  refine Abs.Spec.walkM Tryz.func42 (by rfl) _ Tryz.results42 _ Tryz.ntmps42 (by simp) ?_
  intro _ _ _
  refine CW_seq (CW_region ?_)
  simp only [zZ, reduceIte, Nat.reduceLT, Int.reduceToNat, Int.reduceLE, Int.reduceEq, Int.reduceLT, Nat.reduceEqDiff, Nat.reduceAdd, zDk, pd_eql, pd_neq, pd_eql0, pd_neq0, zPt, bi, halA]
  rw [← hM1, ← hb3, ← hM2, ← hb4]
  refine CW_seq (CW_region ?_)
  simp only [zZ, reduceIte, Nat.reduceLT, Int.reduceToNat, Int.reduceLE, Int.reduceEq, Int.reduceLT, Nat.reduceEqDiff, Nat.reduceAdd, zDk, pd_eql, pd_neq, pd_eql0, pd_neq0, zPt, vFunc]
  refine ⟨by kernel_rfl, _, idxarc_spec L hl M2 _ hL2 b3 s1 false id g32, ?_⟩
  rintro _ M3 ⟨⟨r, hr, rfl⟩, mo3⟩
  have g43 := mo3.get _ _ g4
  have hL3 := hL2.same mo3.get
  have mo := mo2.trans mo3
  have fin : ∀ (h' : Header) (V' : Value), (M3.set b4 (some (.cells false s3 (archC h' V').toList))).get b4 = some (.cells false s3 (archC h' V').toList) ∧ More M (M3.set b4 (some (.cells false s3 (archC h' V').toList))) := fun h' V' =>
    ⟨Mem.get_set_same g43 _, fun b z hb => by
      have := Mem.get_lt hb
      rw [Mem.get_set_ne (by omega)]; exact mo.get b z hb, by rw [Mem.size_set]; exact mo.size⟩
  simp only [zZ, reduceIte, Nat.reduceLT, Int.reduceToNat, Int.reduceLE, Int.reduceEq, Int.reduceLT, Nat.reduceEqDiff, Nat.reduceAdd, zDk, pd_eql, pd_neq, pd_eql0, pd_neq0, zPt]
  cases r with
  | none =>
    have q1 : decide ((placeO none : Int) < 0) = true := rfl
    obtain ⟨gs, ms⟩ := fin noHead (.slice none 0 0)
    refine CW_seq (CW_seq (CW_region ?_))
    simp only [zZ, reduceIte, Nat.reduceLT, Int.reduceToNat, Int.reduceLE, Int.reduceEq, Int.reduceLT, Nat.reduceEqDiff, Nat.reduceAdd, zDk, pd_eql, pd_neq, pd_eql0, pd_neq0, zPt, q1]
    refine CW_cond true (by rfl) (fun _ => CW_seq (CW_region ?_)) (fun h => by cases h)
    simp only [zZ, reduceIte, Nat.reduceLT, Int.reduceToNat, Int.reduceLE, Int.reduceEq, Int.reduceLT, Nat.reduceEqDiff, Nat.reduceAdd, zDk, pd_eql, pd_neq, pd_eql0, pd_neq0, zPt, hbd0, g43, agg8, put8]
    refine CW_ret ?_
    simp only [zZ, reduceIte, Nat.reduceLT, Int.reduceToNat, Int.reduceLE, Int.reduceEq, Int.reduceLT, Nat.reduceEqDiff, Nat.reduceAdd, zDk, pd_eql, pd_neq, pd_eql0, pd_neq0, zPt, mEnd, sAnswer, sAnswer.sRes, aLoad_g, gs, row8]
    exact ⟨_, Thin.refl _, ⟨none, hr, rfl⟩, ms⟩
  | some i =>
    have hr' := hr
    obtain ⟨x, hx, _, _⟩ := hr'
    have hi := (List.getElem?_eq_some_iff.1 hx).1
    obtain ⟨g, ro', rfl, hg⟩ := hL3.at hx
    obtain ⟨xa, xc, hxv⟩ := (hL3.2 x (List.mem_of_getElem? hx)).1.len
    have rw8 := row_at arcX 8 arcX_len hx ro' 8
    have rw8 : rowIn 8 (i * 8) (some (.cells ro' 8 (L.flatMap arcX))) = some (.agg (archC x.1 (.slice xa x.2.2.length xc))) := by rw [rw8, ← hxv]; rfl
    have q1 : decide ((i : Int) < 0) = false := decide_eq_false (by omega)
    have z0 : (0 : Int) ≤ (i : Int) := by omega
    have z1 : (i : Int) < (L.length : Int) := by omega
    have pl : placeO (some i) = (i : Int) := rfl
    obtain ⟨gs, ms⟩ := fin x.1 (.slice xa x.2.2.length xc)
    refine CW_seq (CW_seq (CW_region ?_))
    simp only [zZ, reduceIte, Nat.reduceLT, Int.reduceToNat, Int.reduceLE, Int.reduceEq, Int.reduceLT, Nat.reduceEqDiff, Nat.reduceAdd, zDk, pd_eql, pd_neq, pd_eql0, pd_neq0, zPt, pl, q1]
    refine CW_cond false (by rfl) (fun h => by cases h) (fun _ => CW_skip ?_)
    simp only [zZ, reduceIte, Nat.reduceLT, Int.reduceToNat, Int.reduceLE, Int.reduceEq, Int.reduceLT, Nat.reduceEqDiff, Nat.reduceAdd, zDk, pd_eql, pd_neq, pd_eql0, pd_neq0, zPt, pl]
    refine CW_seq (CW_region ?_)
    simp only [zZ, reduceIte, Nat.reduceLT, Int.reduceToNat, Int.reduceLE, Int.reduceEq, Int.reduceLT, Nat.reduceEqDiff, Nat.reduceAdd, zDk, pd_eql, pd_neq, pd_eql0, pd_neq0, zPt, z0, z1, and_self, hg, Int.toNat_natCast, rw8, g43, agg8, put8]
    refine CW_ret ?_
    simp only [zZ, reduceIte, Nat.reduceLT, Int.reduceToNat, Int.reduceLE, Int.reduceEq, Int.reduceLT, Nat.reduceEqDiff, Nat.reduceAdd, zDk, pd_eql, pd_neq, pd_eql0, pd_neq0, zPt, mEnd, sAnswer, sAnswer.sRes, aLoad_g, gs, row8]
    exact ⟨_, Thin.refl _, ⟨some i, hr, x, hx, by rw [hxv]⟩, ms⟩
set_option maxRecDepth 100000 in
set_option maxHeartbeats 4000000 in
theorem rfind_spec (L : List ArcX) (hl : L.length ≤ 140737488355327) (M : Mem) (V : Value) (hL : AxR M V L) (id : Int) :
    Abs.Spec Tryz.prog 45 [V, .int .i64 id] M fun u M' => (∃ r, IsFirst L id r ∧ u = .int .i64 (placeO r)) ∧ M' = M := by
  obtain ⟨p, c, rfl⟩ := hL.len
  refine Abs.Spec.walkM Tryz.func45 (by rfl) _ Tryz.results45 _ Tryz.ntmps45 (by simp) ?_
  intro _ _ _
  refine CW_seq (CW_region ?_)
  simp only [zZ, reduceIte, Nat.reduceLT, Int.reduceToNat, Int.reduceLE, Int.reduceEq, Int.reduceLT, Nat.reduceEqDiff, Nat.reduceAdd, zDk, pd_eql, pd_neq, pd_eql0, pd_neq0, zPt]
  refine MW_mid (fun f M' => f = [] ∧ IsFirst L id none ∧ M' = M) ?_ ?_
  · refine CW_seq (CW_region ?_)
    simp only [zZ, reduceIte, Nat.reduceLT, Int.reduceToNat, Int.reduceLE, Int.reduceEq, Int.reduceLT, Nat.reduceEqDiff, Nat.reduceAdd, zDk, pd_eql, pd_neq, pd_eql0, pd_neq0, zPt]
    refine CW_block (MW_loop (fun j f M' => ∃ i : Nat, j = L.length - i ∧ f = [(0, .slice p L.length c), (1, .int .i64 id), (5, .int .i64 (i : Nat))] ∧ i ≤ L.length ∧ (∀ (k : Nat) y, k < i → L[k]? = some y → y.1.id ≠ id) ∧ M' = M) L.length ?_ ?_)
    · refine ⟨[0, 1, 5], ?_⟩
      simp only [zZ, reduceIte, Nat.reduceLT, Int.reduceToNat, Int.reduceLE, Int.reduceEq, Int.reduceLT, Nat.reduceEqDiff, Nat.reduceAdd, keepF]
      exact ⟨M, Thin.refl _, 0, rfl, rfl, by omega, fun k o hk => by omega, rfl⟩
    · rintro j f M' ⟨i, rfl, rfl, hi, hno, rfl⟩
      refine CW_seq (CW_seq (CW_region ?_))
      simp only [zZ, reduceIte, Nat.reduceLT, Int.reduceToNat, Int.reduceLE, Int.reduceEq, Int.reduceLT, Nat.reduceEqDiff, Nat.reduceAdd, zDk, pd_eql, pd_neq, pd_eql0, pd_neq0, zPt]
      refine CW_cond (decide ((i : Int) < (L.length : Int))) (by rfl) (fun hq => CW_skip ?_) (fun hq => CW_exit ?_)
      · have hiL := of_decide_eq_true hq
        obtain ⟨x, hx⟩ : ∃ x, L[i]? = some x := ⟨_, List.getElem?_eq_getElem (by omega)⟩
        obtain ⟨g, ro', rfl, hg⟩ := hL.at hx
        have c0 := cell_at arcX 8 arcX_len hx 0 (by decide) ro' 8
        have c0 : cellIn (i * 8) (some (.cells ro' 8 (L.flatMap arcX))) = some (.int .i64 x.1.id) := c0
        have z0 : (0 : Int) ≤ (i : Int) := by omega
        have w9 : IntKind.i64.wrap ((i : Int) + 1) = ((i + 1 : Nat) : Int) := by rw [wri (by omega) (by omega)]; omega
        have e : (x.1.id == id) = decide (x.1.id = id) := by rw [Bool.eq_iff_iff]; simp
        simp only [zZ, reduceIte, Nat.reduceLT, Int.reduceToNat, Int.reduceLE, Int.reduceEq, Int.reduceLT, Nat.reduceEqDiff, Nat.reduceAdd, zDk, pd_eql, pd_neq, pd_eql0, pd_neq0, zPt]
        refine CW_seq (CW_block (CW_seq (CW_region ?_)))
        simp only [zZ, reduceIte, Nat.reduceLT, Int.reduceToNat, Int.reduceLE, Int.reduceEq, Int.reduceLT, Nat.reduceEqDiff, Nat.reduceAdd, zDk, pd_eql, pd_neq, pd_eql0, pd_neq0, zPt, z0, hiL, and_self, hg, Int.toNat_natCast, c0, e]
        refine CW_cond (decide (x.1.id = id)) (by rfl) (fun he => CW_seq (CW_region ?_)) (fun he => CW_skip ?_)
        · simp only [zZ, reduceIte, Nat.reduceLT, Int.reduceToNat, Int.reduceLE, Int.reduceEq, Int.reduceLT, Nat.reduceEqDiff, Nat.reduceAdd, zDk, pd_eql, pd_neq, pd_eql0, pd_neq0, zPt]
          refine CW_ret ?_
          simp only [zZ, reduceIte, Nat.reduceLT, Int.reduceToNat, Int.reduceLE, Int.reduceEq, Int.reduceLT, Nat.reduceEqDiff, Nat.reduceAdd, zDk, pd_eql, pd_neq, pd_eql0, pd_neq0, zPt, mEnd, sAnswer, sAnswer.sRes]
          exact ⟨_, Thin.refl _, ⟨some i, ⟨x, hx, of_decide_eq_true he, hno⟩, rfl⟩, rfl⟩
        · simp only [zZ, reduceIte, Nat.reduceLT, Int.reduceToNat, Int.reduceLE, Int.reduceEq, Int.reduceLT, Nat.reduceEqDiff, Nat.reduceAdd, zDk, pd_eql, pd_neq, pd_eql0, pd_neq0, zPt]
          refine CW_region ?_
          simp only [zZ, reduceIte, Nat.reduceLT, Int.reduceToNat, Int.reduceLE, Int.reduceEq, Int.reduceLT, Nat.reduceEqDiff, Nat.reduceAdd, zDk, pd_eql, pd_neq, pd_eql0, pd_neq0, zPt, w9]
          refine ⟨[0, 1, 5], ?_⟩
          simp only [zZ, reduceIte, Nat.reduceLT, Int.reduceToNat, Int.reduceLE, Int.reduceEq, Int.reduceLT, Nat.reduceEqDiff, Nat.reduceAdd, keepF]
          refine ⟨_, Thin.refl _, L.length - (i + 1), ⟨i + 1, rfl, rfl, by omega, fun k y hk hy => ?_, rfl⟩, by omega⟩
          by_cases e : k = i
          · subst e; rw [hx] at hy; cases hy; exact of_decide_eq_false he
          · exact hno k y (by omega) hy
      · have hiL := of_decide_eq_false hq
        simp only [zZ, reduceIte, Nat.reduceLT, Int.reduceToNat, Int.reduceLE, Int.reduceEq, Int.reduceLT, Nat.reduceEqDiff, Nat.reduceAdd, zDk, pd_eql, pd_neq, pd_eql0, pd_neq0, zPt]
        refine ⟨[], ?_⟩
        simp only [zZ, reduceIte, Nat.reduceLT, Int.reduceToNat, Int.reduceLE, Int.reduceEq, Int.reduceLT, Nat.reduceEqDiff, Nat.reduceAdd, keepF]
        exact ⟨_, Thin.refl _, fun k y hy => hno k y (by have := (List.getElem?_eq_some_iff.1 hy).1; omega) hy, rfl⟩
  · rintro f M1 ⟨rfl, hn, rfl⟩
    refine CW_seq (CW_region ?_)
    simp only [zZ, reduceIte, Nat.reduceLT, Int.reduceToNat, Int.reduceLE, Int.reduceEq, Int.reduceLT, Nat.reduceEqDiff, Nat.reduceAdd, zDk, pd_eql, pd_neq, pd_eql0, pd_neq0, zPt]
    refine CW_ret ?_
    simp only [zZ, reduceIte, Nat.reduceLT, Int.reduceToNat, Int.reduceLE, Int.reduceEq, Int.reduceLT, Nat.reduceEqDiff, Nat.reduceAdd, zDk, pd_eql, pd_neq, pd_eql0, pd_neq0, zPt, mEnd, sAnswer, sAnswer.sRes]
    exact ⟨_, Thin.refl _, ⟨none, hn, rfl⟩, rfl⟩
end Go.Proofs.YtfdijpacbhomjaaGreatDoor
namespace Go.Proofs.YtfdijpacbhomjaaGreatDoor.Abs
open Go Go.RowKit
section
variable [Defs]
theorem SW_drawG {P : Program} {n : Nat} {Q : Exit → AL → Mem → Prop} {f : AL} {m : Mem} {id : Nat} {ops : Array Oper} (hmix : P.follows .mixedOrders = true) (q : Nat) (hq : drawOK ops q = true) (hqs : Nat.ble q ops.size = true)
    (h : sHeadG P n ops.toList m (fun f' M => sOps P n ops.toList (Q .normal) (ops.toList.drop q) f' M) false (ops.toList.take q) f m) : SW P n (.region id ops true) Q f m := by
  intro a ha
  have hqs := Nat.le_of_ble_eq_true hqs
  obtain ⟨vs, Ns, f', h1, h2, h3, h4, _⟩ := sHead_runG 0 (fun _ => undef) (fun _ => []) (a₀ := a) (m₀ := m) (drawOK_head hq) hqs (ops.toList.take q) 0 [] [] false f m (fun j => by rw [List.getElem?_take, Array.getElem?_toList, Nat.zero_add]) (by omega) rfl rfl ha (by simp [memAt, newsAt])
    (fun _ j => by simp [getN]) (fun j hj => by omega) (fun i o _ hi => by omega) (fun i o _ hi => by omega) (Nat.le_refl _) (fun j hj => by omega) h
  exact AW_draw hmix q hq hqs (getV vs) (getN Ns) (fun i o hi ho => h4 i o (Nat.zero_le _) hi ho) (sOps_run (fun f m a h1 h2 => ⟨f, h1, h2⟩) _ f' _ _ h1 h2)
end
section
def sPhGB (P : Program) (n : Nat) (all : List Oper) [K : Box (AL → Mem → Prop)] : List (Nat × Nat) → Nat → AL → Mem → Prop
  | [], _, f, M => K.k f M
  | (q, b') :: r, b, f, M => @sHeadGB P n all M ⟨fun f1 M1 => @sOpsB P n all ⟨fun f2 M2 => sPhGB P n all r b' f2 M2⟩ ((all.drop q).take (b' - q)) f1 M1⟩ ((all.drop b).take (q - b)) false f M
variable {P : Program} {n k : Nat} {f : AL} {m : Mem} {Q : Exit → AL → Mem → Prop}
theorem CW_drawG {id : Nat} {ops : Array Oper} (hmix : P.follows .mixedOrders = true) (q : Nat) (hq : drawOK ops q = true) (hqs : Nat.ble q ops.size = true)
    (h : @sHeadGB P n ops.toList m ⟨fun f' M => @sOpsB P n ops.toList ⟨Q .normal⟩ (ops.toList.drop q) f' M⟩ (ops.toList.take q) false f m) : @CW P n k ⟨.region id ops true⟩ ⟨Q⟩ f m := .of_SW (SW_drawG hmix q hq hqs h)
theorem app_none (M : Mem) : M.app [] = M := by simp [Mem.app]
theorem emp_nil : (!([] : List (Option Blk)).isEmpty) = false := rfl
end
end Go.Proofs.YtfdijpacbhomjaaGreatDoor.Abs
--LONG
/-
  The law's parts: for the program, for the document.
-/
namespace Go.Proofs.YtfdijpacbhomjaaGreatDoor
open Go.RowKit Abs
structure PartX where
  head : Header
  size : Int
  gv : Value
  got : List Int
  bv : Value
  bl : List ByteArray
def partC (x : PartX) : List Value := x.head.cells ++ [.int .i64 x.size, x.gv, x.bv]
theorem partC_len (x : PartX) : (partC x).length = 10 := rfl
def PxR (M : Mem) (V : Value) (L : List PartX) : Prop := Rd M 10 V L.length (L.flatMap partC) ∧ ∀ x ∈ L, InR M x.gv x.got ∧ BlR M x.bv x.bl ∧ x.got.length ≤ 140737488355327 ∧ x.bl.length ≤ 140737488355327
theorem PxR.same {M M' : Mem} {V : Value} {L : List PartX} (h : PxR M V L) (hs : ∀ b x, M.get b = some x → M'.get b = some x) : PxR M' V L :=
  ⟨rd_mono h.1 hs, fun x hx => ⟨(h.2 x hx).1.same hs, (h.2 x hx).2.1.same hs, (h.2 x hx).2.2⟩⟩
theorem PxR.len {M : Mem} {V : Value} {L : List PartX} (h : PxR M V L) : ∃ a c, V = .slice a L.length c := by
  obtain ⟨a, c, h1, _⟩ := h.1
  exact ⟨a, c, h1⟩
theorem PxR.at {M : Mem} {a : Option Addr} {c : Nat} {L : List PartX} (h : PxR M (.slice a L.length c) L) {i : Nat} {x : PartX} (hx : L[i]? = some x) :
    ∃ g ro, a = some ⟨g, 0, none⟩ ∧ M.get g = some (.cells ro 10 (L.flatMap partC)) := by
  have hi : i < L.length := by rcases Nat.lt_or_ge i L.length with h | h; exact h; rw [List.getElem?_eq_none h] at hx; cases hx
  obtain ⟨b, ro, h1, h2⟩ := Rd.at h.1 (by omega)
  exact ⟨b, ro, h1, h2⟩
theorem row_sub {α : Type} (f : α → List Value) (n : Nat) (hf : ∀ x, (f x).length = n) {L : List α} {i : Nat} {x : α} (hx : L[i]? = some x) (m : Nat) (hm : m ≤ n) (ro : Bool) (s : Nat) : rowIn m (i * n) (some (.cells ro s (L.flatMap f))) = some (.agg ((f x).take m).toArray) := by
  have h1 := flatMap_at f n L i x (fun x _ => hf x) hx
  have h2 := flatMap_len f n L fun x _ => hf x
  have hi : i < L.length := by rcases Nat.lt_or_ge i L.length with h | h; exact h; rw [List.getElem?_eq_none h] at hx; cases hx
  have h3 : i * n + m ≤ (L.flatMap f).length := by
    rw [h2]
    have := Nat.mul_le_mul_right n (show i + 1 ≤ L.length by omega)
    rw [Nat.succ_mul] at this
    omega
  show (if i * n + m ≤ (L.flatMap f).length then some (Value.agg (((L.flatMap f).drop (i * n)).take m).toArray) else none) = _
  rw [if_pos h3, ← h1, List.take_take, Nat.min_eq_left hm]
structure OpX where
  head : Header
  set : List Bool
  bv : Value
  bl : List ByteArray
def opx (x : PartX) : OpX := ⟨x.head, ofSet x.size x.got, x.bv, x.bl⟩
def moC (x : OpX) : List Value := x.head.cells ++ setCells x.set ++ [x.bv]
def roC (x : OpX × Value) : List Value := x.1.head.cells ++ [.int .i64 (x.1.set.length : Nat), x.2, x.1.bv]
theorem moC_len (x : OpX) : (moC x).length = 13 := rfl
theorem roC_len (x : OpX × Value) : (roC x).length = 10 := rfl
theorem ofSet_len (n : Int) (L : List Int) : (ofSet n L).length ≤ 256 := by
  have := ofUpto_len n L 300
  have h2 := clampN_le n
  unfold ofUpto at this
  unfold ofSet
  omega
theorem inf_MO : Tryz.prog.info? 111 = some Tryz.t111 := by kernel_rfl
theorem sz_MO : Tryz.t111.size = 13 := rfl
theorem MO_zero : Tryz.t111.zero = some (.agg (moC ⟨noHead, [], .slice none 0 0, []⟩).toArray) := by kernel_rfl
theorem MO_bytes : Tryz.t111.bytes ≤ 1000 := by decide
theorem inf_RO : Tryz.prog.info? 112 = some Tryz.t112 := by kernel_rfl
theorem sz_RO : Tryz.t112.size = 10 := rfl
theorem RO_zero : Tryz.t112.zero = some (.agg (roC (⟨noHead, [], .slice none 0 0, []⟩, .slice none 0 0)).toArray) := by kernel_rfl
theorem RO_bytes : Tryz.t112.bytes ≤ 1000 := by decide
abbrev MOwn (k : Nat) (M : Mem) (V : Value) (L : List OpX) : Prop := OwnL moC 13 k M V L
abbrev ROwn (k : Nat) (M : Mem) (V : Value) (L : List (OpX × Value)) : Prop := OwnL roC 10 k M V L
theorem new_mo1 (h : Header) (S : List Bool) (a : Option Addr) (n c : Nat) (bl : List ByteArray) : nBuildSlice Tryz.prog 55 1 [(0, .agg (moC ⟨h, S, .slice a n c, bl⟩).toArray)] = some (.cells false 13 (moC ⟨h, S, .slice a n c, bl⟩)) := by kernel_rfl
theorem new_ro1 (h : Header) (S : List Bool) (a : Option Addr) (n c : Nat) (bl : List ByteArray) (a' : Option Addr) (n' c' : Nat) : nBuildSlice Tryz.prog 56 1 [(0, .agg (roC (⟨h, S, .slice a n c, bl⟩, .slice a' n' c')).toArray)] = some (.cells false 10 (roC (⟨h, S, .slice a n c, bl⟩, .slice a' n' c'))) := by kernel_rfl
theorem bd_mo (h : Header) (S : List Bool) (a : Option Addr) (n c : Nat) (bl : List ByteArray) : aBuild Tryz.prog 111 [(0, .agg h.cells.toArray), (1, setV S), (2, .slice a n c)] = some (.agg (moC ⟨h, S, .slice a n c, bl⟩).toArray) := by kernel_rfl
theorem bd_ro (h : Header) (S : List Bool) (a : Option Addr) (n c : Nat) (bl : List ByteArray) (a' : Option Addr) (n' c' : Nat) : aBuild Tryz.prog 112 [(0, .agg h.cells.toArray), (1, .int .i64 (S.length : Nat)), (2, .slice a' n' c'), (3, .slice a n c)] = some (.agg (roC (⟨h, S, .slice a n c, bl⟩, .slice a' n' c')).toArray) := by kernel_rfl
theorem moapp {k : Nat} {M : Mem} {V : Value} {L : List OpX} (h : MOwn k M V L) (hk : k ≤ M.size) (hl : L.length ≤ 1000000) (x : OpX) :
    ∃ M' V', aAppend Tryz.prog (M.push (.cells false 13 (moC x))) 55 55 V (.slice (some ⟨M.size, 0, none⟩) 1 1) = some (V', M') ∧ blkOf V' = some (M.size + 1) ∧ MOwn k M' V' (L ++ [x]) ∧
      M'.size = M.size + 2 ∧ (∀ b y, blkOf V ≠ some b → M.get b = some y → M'.get b = some y) :=
  oapp Tryz.underlying55 inf_MO MO_zero sz_MO rfl Tryz.underlying55 moC_len MO_bytes h hk hl x 13
theorem roapp {k : Nat} {M : Mem} {V : Value} {L : List (OpX × Value)} (h : ROwn k M V L) (hk : k ≤ M.size) (hl : L.length ≤ 1000000) (x : OpX × Value) :
    ∃ M' V', aAppend Tryz.prog (M.push (.cells false 10 (roC x))) 56 56 V (.slice (some ⟨M.size, 0, none⟩) 1 1) = some (V', M') ∧ blkOf V' = some (M.size + 1) ∧ ROwn k M' V' (L ++ [x]) ∧
      M'.size = M.size + 2 ∧ (∀ b y, blkOf V ≠ some b → M.get b = some y → M'.get b = some y) :=
  oapp Tryz.underlying56 inf_RO RO_zero sz_RO rfl Tryz.underlying56 roC_len RO_bytes h hk hl x 10
theorem fa_P0 (b o : Nat) : aFieldAddr Tryz.prog 109 (.pointer (some ⟨b, o, none⟩)) 0 = some (.pointer (some ⟨b, o, none⟩)) := by kernel_rfl
theorem fa_P1 (b o : Nat) : aFieldAddr Tryz.prog 109 (.pointer (some ⟨b, o, none⟩)) 1 = some (.pointer (some ⟨b, o + 7, none⟩)) := by kernel_rfl
theorem fa_P2 (b o : Nat) : aFieldAddr Tryz.prog 109 (.pointer (some ⟨b, o, none⟩)) 2 = some (.pointer (some ⟨b, o + 8, none⟩)) := by kernel_rfl
theorem fa_P3 (b o : Nat) : aFieldAddr Tryz.prog 109 (.pointer (some ⟨b, o, none⟩)) 3 = some (.pointer (some ⟨b, o + 9, none⟩)) := by kernel_rfl
theorem inf_Part : Tryz.prog.info? 109 = some Tryz.t109 := by kernel_rfl
theorem sz_Part : Tryz.t109.size = 10 := rfl
theorem appM_keep (M : Mem) (N : List (Option Blk)) (b : Nat) (x : Blk) (h : M.get b = some x) : (M.app N).get b = some x := by
  have hl := Mem.get_lt h
  unfold Mem.size at hl
  unfold Mem.get at h ⊢
  unfold Mem.app
  simp only
  rw [List.getElem?_append_left hl]
  exact h
set_option maxRecDepth 100000 in
set_option maxHeartbeats 8000000 in
theorem at0_md {P : Program} {k : FuncId} {xs : List Value} {m : Mem} {v : Value} (h : Abs.Spec P k xs m fun u M => u = v ∧ M = m) : Abs.Spec P k xs m fun u M => u = v ∧ M = m.app [] :=
  h.mono fun _ _ ⟨a, b⟩ => ⟨a, by rw [b, app_none]⟩
set_option maxRecDepth 100000 in
set_option maxHeartbeats 16000000 in
theorem of33_spec (L : List PartX) (M : Mem) (V : Value) (hL : PxR M V L) :
    Abs.Spec Tryz.prog 16 [V] M fun u M' => (∃ (VA VB : Value) (B : List (OpX × Value)), u = .tuple #[VA, VB] ∧ MOwn M.size M' VA (B.map Prod.fst) ∧ ROwn M.size M' VB B ∧ (∀ y ∈ B, NatsOwn M.size M' y.2 (posB y.1.set) ∧ y.1.set.length ≤ 256 ∧ BlR M y.1.bv y.1.bl ∧ y.1.bl.length ≤ 140737488355327) ∧ B.length ≤ 10) ∧ More M M' := by
  obtain ⟨p, c, rfl⟩ := hL.len
  have halS := al_Set
  generalize aStride Tryz.prog 104 = s1 at halS
  have rowS : ∀ L : List Bool, rowIn 5 0 (some (.cells false s1 (setCells L))) = some (setV L) := fun L => rfl
  have agg5 : ∀ L : List Bool, (setV L).cells.toList = setCells L := fun _ => rfl
  have put0 : ∀ (X : Mem) b (L : List Bool), putIn 5 X b 0 (setCells L) (some (.cells false s1 [.int .i64 0, .int .u64 0, .int .u64 0, .int .u64 0, .int .u64 0])) = some (X.set b (some (.cells false s1 (setCells L)))) := fun _ _ _ => rfl
  have g1 : ((some true : Option Bool) == some true) = true := rfl
  have g0 : ((some false : Option Bool) == some true) = false := rfl
  refine Abs.Spec.walkM Tryz.func16 (by rfl) _ Tryz.results16 _ Tryz.ntmps16 (by simp) ?_
  intro _ _ _
  refine CW_seq (CW_region ?_)
  simp only [zZ, reduceIte, Nat.reduceLT, Int.reduceToNat, Int.reduceLE, Int.reduceEq, Int.reduceLT, Nat.reduceEqDiff, Nat.reduceAdd, zDk, pd_eql, pd_neq, pd_eql0, pd_neq0, zPt]
  refine CW_seq (CW_region ?_)
  simp only [zZ, reduceIte, Nat.reduceLT, Int.reduceToNat, Int.reduceLE, Int.reduceEq, Int.reduceLT, Nat.reduceEqDiff, Nat.reduceAdd, zDk, pd_eql, pd_neq, pd_eql0, pd_neq0, zPt]
  refine CW_seq (CW_region ?_)
  simp only [zZ, reduceIte, Nat.reduceLT, Int.reduceToNat, Int.reduceLE, Int.reduceEq, Int.reduceLT, Nat.reduceEqDiff, Nat.reduceAdd, zDk, pd_eql, pd_neq, pd_eql0, pd_neq0, zPt]
  refine MW_mid (fun f M' => ∃ (VA VB : Value) (B : List (OpX × Value)), f = [(4, VA), (5, VB)] ∧ MOwn M.size M' VA (B.map Prod.fst) ∧ ROwn M.size M' VB B ∧ (∀ y ∈ B, NatsOwn M.size M' y.2 (posB y.1.set) ∧ y.1.set.length ≤ 256 ∧ BlR M y.1.bv y.1.bl ∧ y.1.bl.length ≤ 140737488355327) ∧ B.length ≤ 10 ∧ More M M') ?_ ?_
  · refine CW_seq (CW_region ?_)
    simp only [zZ, reduceIte, Nat.reduceLT, Int.reduceToNat, Int.reduceLE, Int.reduceEq, Int.reduceLT, Nat.reduceEqDiff, Nat.reduceAdd, zDk, pd_eql, pd_neq, pd_eql0, pd_neq0, zPt]
    refine CW_block (MW_loop (fun j f M' => ∃ (i : Nat) (VA VB : Value) (B : List (OpX × Value)), j = 10 - i ∧ f = [(0, .slice p L.length c), (4, VA), (5, VB), (6, .int .i64 (i : Nat))] ∧ i ≤ 10 ∧ i ≤ L.length ∧ B.length = i ∧
      MOwn M.size M' VA (B.map Prod.fst) ∧ ROwn M.size M' VB B ∧ (∀ y ∈ B, NatsOwn M.size M' y.2 (posB y.1.set) ∧ y.1.set.length ≤ 256 ∧ BlR M y.1.bv y.1.bl ∧ y.1.bl.length ≤ 140737488355327) ∧ (∀ y ∈ B, ∀ b, blkOf y.2 = some b → blkOf VA ≠ some b ∧ blkOf VB ≠ some b) ∧ (∀ b, blkOf VA = some b → blkOf VB ≠ some b) ∧ More M M') 10 ?_ ?_)
    · refine ⟨[0, 4, 5, 6], ?_⟩
      simp only [zZ, reduceIte, Nat.reduceLT, Int.reduceToNat, Int.reduceLE, Int.reduceEq, Int.reduceLT, Nat.reduceEqDiff, Nat.reduceAdd, keepF]
      exact ⟨M, Thin.refl _, 0, _, _, [], rfl, rfl, by omega, by omega, rfl, OwnL.nil _ _, OwnL.nil _ _, (fun y hy => by cases hy), (fun y hy => by cases hy), (fun b hb => by cases hb), More.refl _⟩
    · rintro j f M' ⟨i, VA, VB, B, rfl, rfl, hi, hiL, hB, hA, hR, hel, hdis, hab, mo⟩
      refine CW_seq (CW_seq (CW_region ?_))
      cases q1 : decide ((i : Int) < ((L.length : Nat) : Int)) with
      | false =>
        simp only [zZ, reduceIte, Nat.reduceLT, Int.reduceToNat, Int.reduceLE, Int.reduceEq, Int.reduceLT, Nat.reduceEqDiff, Nat.reduceAdd, zDk, pd_eql, pd_neq, pd_eql0, pd_neq0, zPt, Tryz.underlying54, q1, g0]
        refine CW_cond false (by rfl) (fun h => by cases h) (fun _ => CW_exit ?_)
        simp only [zZ, reduceIte, Nat.reduceLT, Int.reduceToNat, Int.reduceLE, Int.reduceEq, Int.reduceLT, Nat.reduceEqDiff, Nat.reduceAdd, zDk, pd_eql, pd_neq, pd_eql0, pd_neq0, zPt]
        refine ⟨[4, 5], ?_⟩
        simp only [zZ, reduceIte, Nat.reduceLT, Int.reduceToNat, Int.reduceLE, Int.reduceEq, Int.reduceLT, Nat.reduceEqDiff, Nat.reduceAdd, keepF]
        exact ⟨_, Thin.refl _, VA, VB, B, rfl, hA, hR, hel, by omega, mo⟩
      | true =>
      cases q2 : decide ((i : Int) < 10) with
      | false =>
        simp only [zZ, reduceIte, Nat.reduceLT, Int.reduceToNat, Int.reduceLE, Int.reduceEq, Int.reduceLT, Nat.reduceEqDiff, Nat.reduceAdd, zDk, pd_eql, pd_neq, pd_eql0, pd_neq0, zPt, Tryz.underlying54, q1, q2, g1]
        refine CW_cond false (by rfl) (fun h => by cases h) (fun _ => CW_exit ?_)
        simp only [zZ, reduceIte, Nat.reduceLT, Int.reduceToNat, Int.reduceLE, Int.reduceEq, Int.reduceLT, Nat.reduceEqDiff, Nat.reduceAdd, zDk, pd_eql, pd_neq, pd_eql0, pd_neq0, zPt]
        refine ⟨[4, 5], ?_⟩
        simp only [zZ, reduceIte, Nat.reduceLT, Int.reduceToNat, Int.reduceLE, Int.reduceEq, Int.reduceLT, Nat.reduceEqDiff, Nat.reduceAdd, keepF]
        exact ⟨_, Thin.refl _, VA, VB, B, rfl, hA, hR, hel, by omega, mo⟩
      | true =>
        have hi2 := of_decide_eq_true q2
        have hiLt := of_decide_eq_true q1
        obtain ⟨x, hx⟩ : ∃ x, L[i]? = some x := ⟨_, List.getElem?_eq_getElem (by omega)⟩
        have hL' := hL.same mo.get
        obtain ⟨g, ro, rfl, hgM⟩ := hL.at hx
        have hg := mo.get _ _ hgM
        obtain ⟨hgot, hbl, hgl, hbll⟩ := hL'.2 x (List.mem_of_getElem? hx)
        obtain ⟨ga, gc, hgv⟩ := hgot.len
        obtain ⟨ba, bc, hbv⟩ := hbl.len
        have z0 : (0 : Int) ≤ (i : Int) := by omega
        have w1 : IntKind.i64.wrap ((i : Int) + 1) = ((i + 1 : Nat) : Int) := by rw [wri (by omega) (by omega)]; omega
        have c7 : cellIn (i * 10 + 7) (some (.cells ro 10 (L.flatMap partC))) = some (.int .i64 x.size) := cell_at partC 10 partC_len hx 7 (by decide) ro 10
        have c8 : cellIn (i * 10 + 8) (some (.cells ro 10 (L.flatMap partC))) = some (.slice ga x.got.length gc) := (cell_at partC 10 partC_len hx 8 (by decide) ro 10).trans (by rw [← hgv]; rfl)
        have c9 : cellIn (i * 10 + 9) (some (.cells ro 10 (L.flatMap partC))) = some (.slice ba x.bl.length bc) := (cell_at partC 10 partC_len hx 9 (by decide) ro 10).trans (by rw [← hbv]; rfl)
        have r7 : rowIn 7 (i * 10) (some (.cells ro 10 (L.flatMap partC))) = some (.agg x.head.cells.toArray) := row_sub partC 10 partC_len hx 7 (by decide) ro 10
        rw [hgv] at hgot
        have ho (X : Mem) (h : InR X (.slice ga x.got.length gc) x.got) := of22_spec x.size x.got X _ h
        simp only [zZ, reduceIte, Nat.reduceLT, Int.reduceToNat, Int.reduceLE, Int.reduceEq, Int.reduceLT, Nat.reduceEqDiff, Nat.reduceAdd, zDk, pd_eql, pd_neq, pd_eql0, pd_neq0, zPt, Tryz.underlying54, q1, q2, g1]
        refine CW_cond true (by rfl) (fun _ => CW_skip ?_) (fun h => by cases h)
        simp only [zZ, reduceIte, Nat.reduceLT, Int.reduceToNat, Int.reduceLE, Int.reduceEq, Int.reduceLT, Nat.reduceEqDiff, Nat.reduceAdd, zDk, pd_eql, pd_neq, pd_eql0, pd_neq0, zPt]
        refine CW_seq (CW_block ?_)
        refine MW_mid (fun f M2 => ∃ b7, f = [(0, .slice (some ⟨g, 0, none⟩) L.length c), (4, VA), (5, VB), (6, .int .i64 (i : Nat)), (7, .pointer (some ⟨b7, 0, none⟩))] ∧ M2.get b7 = some (.cells false s1 (setCells (ofSet x.size x.got))) ∧ More M' M2 ∧ M'.size ≤ b7) ?_ ?_
        · refine CW_two hmix [0, 1, 2, 3, 4, 5, 6, 7, 8, 9] 10 14 [11, 12, 13, 15, 16] 17 (by kernel_rfl) ?_ ?_
          · simp only [zZ, reduceIte, Nat.reduceLT, Int.reduceToNat, Int.reduceLE, Int.reduceEq, Int.reduceLT, Nat.reduceEqDiff, Nat.reduceAdd, zDk, pd_eql, pd_neq, pd_eql0, pd_neq0, zPt, Abs.sPick, List.cons_append, List.nil_append, Tryz.underlying54, inf_Part, sz_Part, fa_P1, fa_P2, z0, hiLt, and_self, hg, Int.toNat_natCast, c7, c8]
            refine ⟨by kernel_rfl, _, ho M' hgot, ?_⟩
            rintro _ M2 ⟨⟨a2, k2, c2, rfl⟩, mo2⟩
            obtain ⟨b7, hb7⟩ : ∃ b, b = M2.size := ⟨_, rfl⟩
            obtain ⟨X1, hX1⟩ : ∃ X, X = M2.push (.cells false s1 [.int .i64 0, .int .u64 0, .int .u64 0, .int .u64 0, .int .u64 0]) := ⟨_, rfl⟩
            have gX1 : X1.get b7 = some (.cells false s1 [.int .i64 0, .int .u64 0, .int .u64 0, .int .u64 0, .int .u64 0]) := by rw [hX1, hb7, Mem.get_push_new]
            simp only [zZ, reduceIte, Nat.reduceLT, Int.reduceToNat, Int.reduceLE, Int.reduceEq, Int.reduceLT, Nat.reduceEqDiff, Nat.reduceAdd, zDk, pd_eql, pd_neq, pd_eql0, pd_neq0, zPt, halS, agg5]
            rw [← hb7, ← hX1]
            simp only [zZ, reduceIte, Nat.reduceLT, Int.reduceToNat, Int.reduceLE, Int.reduceEq, Int.reduceLT, Nat.reduceEqDiff, Nat.reduceAdd, zDk, pd_eql, pd_neq, pd_eql0, pd_neq0, zPt, gX1, put0]
            refine ⟨[0, 4, 5, 6, 7], ?_⟩
            simp only [zZ, reduceIte, Nat.reduceLT, Int.reduceToNat, Int.reduceLE, Int.reduceEq, Int.reduceLT, Nat.reduceEqDiff, Nat.reduceAdd, zDk, pd_eql, pd_neq, pd_eql0, pd_neq0, zPt, keepF]
            have hz := mo2.size
            refine ⟨_, Thin.refl _, b7, rfl, Mem.get_set_same gX1 _, ⟨fun b y hb => ?_, ?_⟩, by omega⟩
            · have h1 := Mem.get_lt hb
              rw [Mem.get_set_ne (by omega), hX1, Mem.get_push_old (by omega)]
              exact mo2.get b y hb
            · rw [Mem.size_set, hX1, Mem.size_push]; omega
          · obtain ⟨b7, hb7⟩ : ∃ b, b = M'.size := ⟨_, rfl⟩
            obtain ⟨X1, hX1⟩ : ∃ X, X = M'.push (.cells false s1 [.int .i64 0, .int .u64 0, .int .u64 0, .int .u64 0, .int .u64 0]) := ⟨_, rfl⟩
            have gX1 : X1.get b7 = some (.cells false s1 [.int .i64 0, .int .u64 0, .int .u64 0, .int .u64 0, .int .u64 0]) := by rw [hX1, hb7, Mem.get_push_new]
            have moX : More M' X1 := by rw [hX1]; exact More.push _ _
            simp only [zZ, reduceIte, Nat.reduceLT, Int.reduceToNat, Int.reduceLE, Int.reduceEq, Int.reduceLT, Nat.reduceEqDiff, Nat.reduceAdd, zDk, pd_eql, pd_neq, pd_eql0, pd_neq0, zPt, Abs.sPick, List.cons_append, List.nil_append, Tryz.underlying54, inf_Part, sz_Part, fa_P1, fa_P2, z0, hiLt, and_self, hg, Int.toNat_natCast, c7, c8, halS]
            rw [← hb7, ← hX1]
            refine ⟨by kernel_rfl, _, ho X1 (hgot.same moX.get), ?_⟩
            rintro _ M2 ⟨⟨a2, k2, c2, rfl⟩, mo2⟩
            have g2 := mo2.get _ _ gX1
            simp only [zZ, reduceIte, Nat.reduceLT, Int.reduceToNat, Int.reduceLE, Int.reduceEq, Int.reduceLT, Nat.reduceEqDiff, Nat.reduceAdd, zDk, pd_eql, pd_neq, pd_eql0, pd_neq0, zPt, agg5, g2, put0]
            refine ⟨[0, 4, 5, 6, 7], ?_⟩
            simp only [zZ, reduceIte, Nat.reduceLT, Int.reduceToNat, Int.reduceLE, Int.reduceEq, Int.reduceLT, Nat.reduceEqDiff, Nat.reduceAdd, zDk, pd_eql, pd_neq, pd_eql0, pd_neq0, zPt, keepF]
            have hz := mo2.size
            have hz2 := moX.size
            refine ⟨_, Thin.refl _, b7, rfl, Mem.get_set_same g2 _, ⟨fun b y hb => ?_, ?_⟩, by omega⟩
            · have h1 := Mem.get_lt hb
              rw [Mem.get_set_ne (by omega)]
              exact mo2.get b y (moX.get b y hb)
            · rw [Mem.size_set]; omega
        · rintro f M2 ⟨b7, rfl, g7, mo2, hb7⟩
          have zM := mo.size
          have zM2 := mo2.size
          have hg2 := mo2.get _ _ hg
          have hA2 := hA.same fun b y _ hy => mo2.get b y hy
          have hR2 := hR.same fun b y _ hy => mo2.get b y hy
          obtain ⟨M5, V5, ha, hb5, hA5, hz5, ho5⟩ := moapp hA2 (by omega) (by rw [List.length_map]; omega) (opx x)
          have hx5 : opx x = ⟨x.head, ofSet x.size x.got, .slice ba x.bl.length bc, x.bl⟩ := by unfold opx; rw [hbv]
          rw [hx5] at ha hA5
          have nA : ∀ b, blkOf VA = some b → M.size ≤ b ∧ b < M'.size := fun b e => hA.live e
          have nB : ∀ b, blkOf VB = some b → M.size ≤ b ∧ b < M'.size := fun b e => hR.live e
          have k5 : ∀ b y, M.get b = some y → M5.get b = some y := fun b y hy => ho5 b y (fun e => by have := nA b e; have := Mem.get_lt hy; omega) (mo2.get b y (mo.get b y hy))
          have g75 := ho5 _ _ (fun e => by have := nA b7 e; omega) g7
          have hR5 : ROwn M.size M5 VB B := hR2.same fun b y hb hy => ho5 b y (fun e => hab b e hb) hy
          have rw5 : (setCells (ofSet x.size x.got)).length = 5 := rfl
          refine CW_seq (CW_all hmix (by kernel_rfl) ?_)
          simp only [zZ, reduceIte, Nat.reduceLT, Int.reduceToNat, Int.reduceLE, Int.reduceEq, Int.reduceLT, Nat.reduceEqDiff, Nat.reduceAdd, zDk, pd_eql, pd_neq, pd_eql0, pd_neq0, zPt, Tryz.underlying54, inf_Part, sz_Part, fa_P0, fa_P3, z0, hiLt, and_self, hg2, Int.toNat_natCast, c9, r7, g7, rowS, bd_mo x.head (ofSet x.size x.got) ba x.bl.length bc x.bl, new_mo1, ha]
          obtain ⟨W, N, hl1, hl2, hl3⟩ := slistx_exact (ofSet x.size x.got) (ofSet_len _ _) M5
          have mo6 : More M5 (M5.app N) := ⟨fun b y hb => appM_keep M5 N b y hb, by rw [app_size]; omega⟩
          have z6 := mo6.size
          have hR6 : ROwn M.size (M5.app N) VB B := hR5.same fun b y _ hy => mo6.get b y hy
          obtain ⟨M8, V8, hr, hb8, hR8, hz8, ho8⟩ := roapp hR6 (by omega) (by omega) (⟨x.head, ofSet x.size x.got, .slice ba x.bl.length bc, x.bl⟩, W)
          obtain ⟨wa, wc, hW⟩ := hl3.len
          subst hW
          have hg5 := k5 _ _ hgM
          refine CW_drawG hmix 17 (by kernel_rfl) (by kernel_rfl) ?_
          simp only [zZ, reduceIte, Nat.reduceLT, Int.reduceToNat, Int.reduceLE, Int.reduceEq, Int.reduceLT, Nat.reduceEqDiff, Nat.reduceAdd, zDk, pd_eql, pd_neq, pd_eql0, pd_neq0, zPt, sPhGB, sHeadGB, sHOneG, sHOpG, isVal, sGuardedV, app_none, emp_nil, Nat.reduceSub, Nat.sub_zero, Tryz.underlying54, inf_Part, sz_Part, fa_P0, fa_P3, z0, hiLt, and_self, hg5, Int.toNat_natCast, c9, r7, g75, rowS]
          refine ⟨by kernel_rfl, _, [], at0_md (size_at (ofSet x.size x.got) M5), rfl, ?_⟩
          simp only [zZ, reduceIte, Nat.reduceLT, Int.reduceToNat, Int.reduceLE, Int.reduceEq, Int.reduceLT, Nat.reduceEqDiff, Nat.reduceAdd, zDk, pd_eql, pd_neq, pd_eql0, pd_neq0, zPt, sPhGB, sHeadGB, sHOneG, sHOpG, isVal, sGuardedV, app_none, emp_nil, Nat.reduceSub, Nat.sub_zero, Tryz.underlying54, inf_Part, sz_Part, fa_P0, fa_P3, z0, hiLt, and_self, hg5, Int.toNat_natCast, c9, r7, g75, rowS]
          refine ⟨by kernel_rfl, _, N, hl1, hl2, ?_⟩
          have hg6 := mo6.get _ _ hg5
          simp only [zZ, reduceIte, Nat.reduceLT, Int.reduceToNat, Int.reduceLE, Int.reduceEq, Int.reduceLT, Nat.reduceEqDiff, Nat.reduceAdd, zDk, pd_eql, pd_neq, pd_eql0, pd_neq0, zPt, sPhGB, sHeadGB, sHOneG, sHOpG, isVal, sGuardedV, app_none, emp_nil, Nat.reduceSub, Nat.sub_zero, Tryz.underlying54, inf_Part, sz_Part, fa_P0, fa_P3, z0, hiLt, and_self, hg5, hg6, Int.toNat_natCast, c9, r7, g75, rowS, bd_ro x.head (ofSet x.size x.got) ba x.bl.length bc x.bl, new_ro1, hr]
          refine CW_region ?_
          simp only [zZ, reduceIte, Nat.reduceLT, Int.reduceToNat, Int.reduceLE, Int.reduceEq, Int.reduceLT, Nat.reduceEqDiff, Nat.reduceAdd, zDk, pd_eql, pd_neq, pd_eql0, pd_neq0, zPt, w1]
          refine ⟨[0, 4, 5, 6], ?_⟩
          simp only [zZ, reduceIte, Nat.reduceLT, Int.reduceToNat, Int.reduceLE, Int.reduceEq, Int.reduceLT, Nat.reduceEqDiff, Nat.reduceAdd, zDk, pd_eql, pd_neq, pd_eql0, pd_neq0, zPt, keepF]
          have z8 : M8.size = (M5.app N).size + 2 := hz8
          have kN : ∀ b y, M.get b = some y → M8.get b = some y := fun b y hy => ho8 b y (fun e => by have := nB b e; have := Mem.get_lt hy; omega) (mo6.get _ _ (k5 b y hy))
          refine ⟨M8, Thin.refl _, 10 - (i + 1), ⟨i + 1, V5, V8, B ++ [(⟨x.head, ofSet x.size x.got, .slice ba x.bl.length bc, x.bl⟩, .slice wa (posB (ofSet x.size x.got)).length wc)], rfl, rfl, by omega, by omega, by simp [hB], ?_, hR8, ?_, ?_, ?_, ⟨kN, by omega⟩⟩, by omega⟩
          · rw [List.map_append]
            exact hA5.same fun b y hb hy => ho8 b y (fun e => by rw [hb5] at hb; have h1 := Option.some.inj hb; have := nB b e; omega) (mo6.get _ _ hy)
          · intro y hy
            rcases List.mem_append.1 hy with hy | hy
            · obtain ⟨h1, h2, h3, h4⟩ := hel y hy
              exact ⟨h1.same fun b z hb hz => ho8 b z (fun e => (hdis y hy b hb).2 e) (mo6.get _ _ (ho5 b z (fun e => (hdis y hy b hb).1 e) (mo2.get _ _ hz))), h2, h3, h4⟩
            · rw [List.mem_singleton.1 hy]
              refine ⟨(hl3.le (by omega)).same fun b z hb hz => ho8 b z (fun e => by have := nB b e; have := (hl3.live hb).1; omega) hz, ofSet_len _ _, ?_, hbll⟩
              show BlR M (.slice ba x.bl.length bc) x.bl
              rw [← hbv]; exact (hL.2 x (List.mem_of_getElem? hx)).2.1
          · intro y hy b hb
            rcases List.mem_append.1 hy with hy | hy
            · have := ((hel y hy).1.live hb).2
              rw [hb5, hb8]
              exact ⟨fun e => by have := Option.some.inj e; omega, fun e => by have := Option.some.inj e; omega⟩
            · rw [List.mem_singleton.1 hy] at hb
              have := hl3.live hb
              rw [hb5, hb8]
              exact ⟨fun e => by have := Option.some.inj e; omega, fun e => by have := Option.some.inj e; omega⟩
          · intro b hb e
            rw [hb5] at hb; rw [hb8] at e
            have := Option.some.inj hb; have := Option.some.inj e; omega
  · rintro f M4 ⟨VA, VB, B, rfl, hA, hR, hel, hl, mo⟩
    refine CW_seq (CW_region ?_)
    simp only [zZ, reduceIte, Nat.reduceLT, Int.reduceToNat, Int.reduceLE, Int.reduceEq, Int.reduceLT, Nat.reduceEqDiff, Nat.reduceAdd, zDk, pd_eql, pd_neq, pd_eql0, pd_neq0, zPt]
    obtain ⟨ka, kc, rfl⟩ := hA.len
    obtain ⟨la, lc, rfl⟩ := hR.len
    refine CW_ret ?_
    simp only [zZ, reduceIte, Nat.reduceLT, Int.reduceToNat, Int.reduceLE, Int.reduceEq, Int.reduceLT, Nat.reduceEqDiff, Nat.reduceAdd, zDk, pd_eql, pd_neq, pd_eql0, pd_neq0, zPt, mEnd, sAnswer, sAnswer.sRes]
    exact ⟨_, Thin.refl _, ⟨_, _, B, rfl, hA, hR, hel, hl⟩, mo⟩
end Go.Proofs.YtfdijpacbhomjaaGreatDoor
namespace Go.Proofs.YtfdijpacbhomjaaGreatDoor
open Go.RowKit Abs
def chainH : List Bool → Option Bool
  | [] => some true
  | b :: r => match some b with
    | some true => chainH r
    | some false => some false
    | none => none
theorem chainH_eq : ∀ l : List Bool, chainH l = some (l.all id)
  | [] => rfl
  | true :: r => by simp [chainH, chainH_eq r]
  | false :: r => by simp [chainH]
def sameH (x y : Header) : Bool := [x.id == y.id, beqB x.salt y.salt, x.n == y.n, x.bytes == y.bytes, x.raw == y.raw, beqB x.root y.root, beqB x.tag y.tag].all id
set_option maxRecDepth 100000 in
theorem hdr_neq (cx : Bool) (x y : Header) : aBin Tryz.prog .neq 81 cx (.agg x.cells.toArray) (.agg y.cells.toArray) = some (.bool (!sameH x y)) := by
  obtain ⟨a0, a1, a2, a3, a4, a5, a6⟩ := x
  obtain ⟨b0, b1, b2, b3, b4, b5, b6⟩ := y
  have e0 : aBin Tryz.prog .neq 81 cx (.agg (Header.cells ⟨a0, a1, a2, a3, a4, a5, a6⟩).toArray) (.agg (Header.cells ⟨b0, b1, b2, b3, b4, b5, b6⟩).toArray) = (chainH [a0 == b0, beqB a1 b1, a2 == b2, a3 == b3, a4 == b4, beqB a5 b5, beqB a6 b6]).map fun b => .bool (!b) := by cases cx <;> kernel_rfl
  rw [e0, chainH_eq, Option.map_some]
  rfl
end Go.Proofs.YtfdijpacbhomjaaGreatDoor
--LONG
/-
  What a model may be: told once.
-/
namespace Go.Proofs.YtfdijpacbhomjaaGreatDoor
open Go.RowKit Abs
theorem More.setAt {m M : Mem} (h : More m M) {b : Nat} (hb : m.size ≤ b) (x : Option Blk) : More m (M.set b x) :=
  ⟨fun c y hc => by rw [Mem.get_set_ne (by have := Mem.get_lt hc; omega)]; exact h.get c y hc, by rw [Mem.size_set]; exact h.size⟩
def firstNZ : List Int → Int
  | [] => 0
  | x :: t => if x = 0 then firstNZ t else x
theorem nz_app : ∀ A B : List Int, firstNZ (A ++ B) = if firstNZ A = 0 then firstNZ B else firstNZ A
  | [], _ => by simp [firstNZ]
  | x :: t, B => by
    show (if x = 0 then firstNZ (t ++ B) else x) = if (if x = 0 then firstNZ t else x) = 0 then firstNZ B else (if x = 0 then firstNZ t else x)
    by_cases h : x = 0
    · rw [if_pos h, if_pos h, nz_app t B]
    · rw [if_neg h, if_neg h, if_neg h]
theorem nz_step {C : List Int} {i : Nat} {c : Int} (h : firstNZ (C.take i) = 0) (hc : C[i]? = some c) : firstNZ (C.take (i + 1)) = c := by
  rw [List.take_add_one, hc, nz_app, if_pos h]
  show (if c = 0 then 0 else c) = c
  by_cases e : c = 0
  · rw [if_pos e, e]
  · rw [if_neg e]
theorem nz_stop {C : List Int} {i : Nat} {c : Int} (h : firstNZ (C.take i) = 0) (hc : C[i]? = some c) (h0 : c ≠ 0) : firstNZ C = c := by
  have h1 := nz_step h hc
  rw [← List.take_append_drop (i + 1) C, nz_app, h1, if_neg h0]
theorem nz_end {C : List Int} {i : Nat} (h : firstNZ (C.take i) = 0) (hi : C.length ≤ i) : firstNZ C = 0 := by
  rw [← List.take_of_length_le hi]; exact h
def findA (P : List ArcX) (id : Int) : Option ArcX := P.find? fun a => decide (a.1.id = id)
theorem findA_none {P : List ArcX} {id : Int} (h : IsFirst P id none) : findA P id = none := by
  unfold findA
  rw [List.find?_eq_none]
  intro x hx
  obtain ⟨i, hi⟩ := List.getElem?_of_mem hx
  simpa using h i x hi
theorem findA_some {P : List ArcX} {id : Int} {i : Nat} {x : ArcX} (h : IsFirst P id (some i)) (hx : P[i]? = some x) : findA P id = some x := by
  obtain ⟨y, hy, he, hn⟩ := h
  rw [hx] at hy; cases hy
  unfold findA
  rw [List.find?_eq_some_iff_getElem]
  obtain ⟨hi, hxi⟩ := List.getElem?_eq_some_iff.1 hx
  refine ⟨by simpa using he, i, hi, hxi, fun j hj => ?_⟩
  have := hn j P[j] hj (List.getElem?_eq_getElem (by omega))
  simpa using this
def badK (P : List ArcX) (k : ArcX) : Int := match findA P k.1.id with
  | none => 8
  | some a => if sameArch a.1 k.1 a.2.2 k.2.2 = true then 0 else 11
def blkC (bl ys : List ByteArray) (S : List Nat) (i : Nat) : Int := match S[i]? with
  | none => 0
  | some x => match ys[x]? with
    | none => 11
    | some z => if beqB (bl.getD i .empty) z = true then 0 else 11
def badO (P : List ArcX) (o : OpX) : Int := match findA P o.head.id with
  | none => 8
  | some a => if sameH a.1 o.head = false then 11 else if ((o.set.length : Nat) : Int) = a.1.n then (if o.bl.length = countT o.set then firstNZ ((List.range (posB o.set).length).map (blkC o.bl a.2.2 (posB o.set))) else 11) else 11
def soundV (P K : List ArcX) (O : List OpX) : Int := firstNZ (K.map (badK P) ++ O.map (badO P))
theorem soundV_k {P K : List ArcX} {O : List OpX} {i : Nat} {k : ArcX} (h : firstNZ ((K.map (badK P)).take i) = 0) (hk : K[i]? = some k) (h0 : badK P k ≠ 0) : soundV P K O = badK P k := by
  have h1 := nz_stop h (by rw [List.getElem?_map, hk]; rfl) h0
  unfold soundV
  rw [nz_app, h1, if_neg h0]
theorem soundV_o {P K : List ArcX} {O : List OpX} {i : Nat} {o : OpX} (hK : firstNZ (K.map (badK P)) = 0) (h : firstNZ ((O.map (badO P)).take i) = 0) (hk : O[i]? = some o) (h0 : badO P o ≠ 0) : soundV P K O = badO P o := by
  have h1 := nz_stop h (by rw [List.getElem?_map, hk]; rfl) h0
  unfold soundV
  rw [nz_app, hK, if_pos rfl, h1]
theorem soundV_end {P K : List ArcX} {O : List OpX} {i : Nat} (hK : firstNZ (K.map (badK P)) = 0) (h : firstNZ ((O.map (badO P)).take i) = 0) (hi : O.length ≤ i) : soundV P K O = 0 := by
  unfold soundV
  rw [nz_app, hK, if_pos rfl]
  exact nz_end h (by rw [List.length_map]; exact hi)
def OxR (M : Mem) (V : Value) (O : List OpX) : Prop := Rd M 13 V O.length (O.flatMap moC) ∧ ∀ x ∈ O, BlR M x.bv x.bl ∧ x.bl.length ≤ 140737488355327 ∧ x.set.length ≤ 256
theorem OxR.len {M : Mem} {V : Value} {L : List OpX} (h : OxR M V L) : ∃ a c, V = .slice a L.length c := by
  obtain ⟨a, c, h1, _⟩ := h.1
  exact ⟨a, c, h1⟩
theorem OxR.at {M : Mem} {a : Option Addr} {c : Nat} {L : List OpX} (h : OxR M (.slice a L.length c) L) {i : Nat} {x : OpX} (hx : L[i]? = some x) :
    ∃ g ro, a = some ⟨g, 0, none⟩ ∧ M.get g = some (.cells ro 13 (L.flatMap moC)) := by
  have hi : i < L.length := by rcases Nat.lt_or_ge i L.length with h | h; exact h; rw [List.getElem?_eq_none h] at hx; cases hx
  obtain ⟨b, ro, h1, h2⟩ := Rd.at h.1 (by omega)
  exact ⟨b, ro, h1, h2⟩
theorem al_MO : nAlloc Tryz.prog 111 = some (.cells false (aStride Tryz.prog 111) (moC ⟨noHead, [], .slice none 0 0, []⟩)) := by kernel_rfl
theorem bx_St (p q r : Option Addr) (n m k c d e : Nat) : nBox Tryz.prog 61 (.agg #[.slice p n c, .slice q m d, .slice r k e]) = some (.cells false (aStride Tryz.prog 61) [.slice p n c, .slice q m d, .slice r k e]) := by rfl
theorem fa_S1 (b o : Nat) : aFieldAddr Tryz.prog 61 (.pointer (some ⟨b, o, none⟩)) 1 = some (.pointer (some ⟨b, o + 1, none⟩)) := by kernel_rfl
theorem fa_S0 (b o : Nat) : aFieldAddr Tryz.prog 61 (.pointer (some ⟨b, o, none⟩)) 0 = some (.pointer (some ⟨b, o, none⟩)) := by kernel_rfl
theorem fa_S2 (b o : Nat) : aFieldAddr Tryz.prog 61 (.pointer (some ⟨b, o, none⟩)) 2 = some (.pointer (some ⟨b, o + 2, none⟩)) := by kernel_rfl
theorem ld_MOs (get : Nat → Option Blk) (b o : Nat) : gLoad Tryz.prog get 55 (.pointer (some ⟨b, o, none⟩)) = cellIn o (get b) := ld_cell Tryz.underlying55 rfl get b o
theorem ld_MO (get : Nat → Option Blk) (b o : Nat) : gLoad Tryz.prog get 111 (.pointer (some ⟨b, o, none⟩)) = rowIn 13 o (get b) := ld_row Tryz.underlying111 (row_struct _) inf_MO rfl get b o
theorem st_MO (m : Mem) (b o : Nat) (v : Value) : aStore Tryz.prog m 111 (.pointer (some ⟨b, o, none⟩)) v = putIn 13 m b o v.cells.toList (m.get b) := st_any inf_MO rfl m b o v
theorem fa_O0 (b o : Nat) : aFieldAddr Tryz.prog 111 (.pointer (some ⟨b, o, none⟩)) 0 = some (.pointer (some ⟨b, o, none⟩)) := by kernel_rfl
theorem fa_O1 (b o : Nat) : aFieldAddr Tryz.prog 111 (.pointer (some ⟨b, o, none⟩)) 1 = some (.pointer (some ⟨b, o + 7, none⟩)) := by kernel_rfl
theorem fa_O2 (b o : Nat) : aFieldAddr Tryz.prog 111 (.pointer (some ⟨b, o, none⟩)) 2 = some (.pointer (some ⟨b, o + 12, none⟩)) := by kernel_rfl
set_option maxRecDepth 100000 in
set_option maxHeartbeats 16000000 in
theorem msound_spec (P K : List ArcX) (O : List OpX) (hp : P.length ≤ 140737488355327) (hk : K.length ≤ 140737488355327) (ho : O.length ≤ 140737488355327) (M : Mem) (VP VK VO : Value) (hP : AxR M VP P) (hK : AxR M VK K) (hO : OxR M VO O) :
    Abs.Spec Tryz.prog 17 [.agg #[VP, VK, VO]] M fun u M' => u = .int .i64 (soundV P K O) ∧ More M M' := by
  obtain ⟨pP, cP, rfl⟩ := hP.len
  obtain ⟨pK, cK, rfl⟩ := hK.len
  obtain ⟨pO, cO, rfl⟩ := hO.len
  have halA : nAlloc Tryz.prog 93 = some (.cells false (aStride Tryz.prog 93) (archC noHead (.slice none 0 0)).toList) := al_Arc
  generalize aStride Tryz.prog 93 = sA at halA
  have row8 : ∀ (s : Nat) (h : Header) V, rowIn 8 0 (some (.cells false s (archC h V).toList)) = some (.agg (archC h V)) := fun _ _ _ => rfl
  have agg8 : ∀ h V, (Value.agg (archC h V)).cells.toList = (archC h V).toList := fun _ _ => rfl
  have put8 : ∀ (M0 : Mem) (b : Nat) (h h' : Header) (V : Value) (a : Option Addr) (n c : Nat), putIn 8 M0 b 0 (archC h' (.slice a n c)).toList (some (.cells false sA (archC h V).toList)) = some (M0.set b (some (.cells false sA (archC h' (.slice a n c)).toList))) := fun _ _ _ _ _ _ _ _ => rfl
  have c80 : ∀ (s : Nat) (h : Header) V, cellIn 0 (some (.cells false s (archC h V).toList)) = some (.int .i64 h.id) := fun _ _ _ => rfl
  have halO := al_MO
  generalize aStride Tryz.prog 111 = sO at halO
  have hbx := bx_St pP pK pO P.length K.length O.length cP cK cO
  generalize aStride Tryz.prog 61 = sS at hbx
  obtain ⟨M1, hM1⟩ : ∃ X, X = M.push (.cells false sS [.slice pP P.length cP, .slice pK K.length cK, .slice pO O.length cO]) := ⟨_, rfl⟩
  obtain ⟨b1, hb1⟩ : ∃ b, b = M.size := ⟨_, rfl⟩
  have g1 : M1.get b1 = some (.cells false sS [.slice pP P.length cP, .slice pK K.length cK, .slice pO O.length cO]) := by rw [hM1, hb1, Mem.get_push_new]
  have mo1 : More M M1 := by rw [hM1]; exact More.push _ _
  refine Abs.Spec.walkM Tryz.func17 (by rfl) _ Tryz.results17 _ Tryz.ntmps17 (by simp) ?_
  intro _ _ _
  refine CW_seq (CW_region ?_)
  simp only [zZ, reduceIte, Nat.reduceLT, Int.reduceToNat, Int.reduceLE, Int.reduceEq, Int.reduceLT, Nat.reduceEqDiff, Nat.reduceAdd, zDk, pd_eql, pd_neq, pd_eql0, pd_neq0, zPt, hbx]
  rw [← hM1, ← hb1]
  refine MW_mid (fun f M' => f = [(1, .pointer (some ⟨b1, 0, none⟩))] ∧ firstNZ (K.map (badK P)) = 0 ∧ More M1 M') ?_ ?_
  · refine CW_seq (CW_region ?_)
    simp only [zZ, reduceIte, Nat.reduceLT, Int.reduceToNat, Int.reduceLE, Int.reduceEq, Int.reduceLT, Nat.reduceEqDiff, Nat.reduceAdd, zDk, pd_eql, pd_neq, pd_eql0, pd_neq0, zPt, fa_S1, g1, Nat.reduceAdd, Tryz.underlying55, inf_MO, sz_MO, ld_MOs, ld_MO, st_MO]
    refine CW_block (MW_loop (fun j f M' => ∃ i : Nat, j = K.length - i ∧ f = [(1, .pointer (some ⟨b1, 0, none⟩)), (14, .slice pK K.length cK), (15, .int .i64 (K.length : Nat)), (16, .int .i64 (i : Nat))] ∧ i ≤ K.length ∧ firstNZ ((K.map (badK P)).take i) = 0 ∧ More M1 M') K.length ?_ ?_)
    · refine ⟨[1, 14, 15, 16], ?_⟩
      simp only [zZ, reduceIte, Nat.reduceLT, Int.reduceToNat, Int.reduceLE, Int.reduceEq, Int.reduceLT, Nat.reduceEqDiff, Nat.reduceAdd, zDk, pd_eql, pd_neq, pd_eql0, pd_neq0, zPt, keepF]
      exact ⟨M1, Thin.refl _, 0, rfl, rfl, by omega, rfl, More.refl _⟩
    · rintro j f M2 ⟨i, rfl, rfl, hi, hz, mo2⟩
      refine CW_seq (CW_region ?_)
      simp only [zZ, reduceIte, Nat.reduceLT, Int.reduceToNat, Int.reduceLE, Int.reduceEq, Int.reduceLT, Nat.reduceEqDiff, Nat.reduceAdd, zDk, pd_eql, pd_neq, pd_eql0, pd_neq0, zPt]
      refine CW_seq (CW_cond (decide ((i : Int) < (K.length : Int))) (by rfl) (fun hq => CW_skip ?_) (fun hq => CW_exit ?_))
      · have hiK := of_decide_eq_true hq
        obtain ⟨x, hx⟩ : ∃ x, K[i]? = some x := ⟨_, List.getElem?_eq_getElem (by omega)⟩
        obtain ⟨g, ro', rfl, hg⟩ := hK.at hx
        have mo02 := mo1.trans mo2
        have hg2 := mo02.get _ _ hg
        have g12 := mo2.get _ _ g1
        obtain ⟨xa, xc, hxv⟩ := (hK.2 x (List.mem_of_getElem? hx)).1.len
        have rw8 : rowIn 8 (i * 8) (some (.cells ro' 8 (K.flatMap arcX))) = some (.agg (archC x.1 (.slice xa x.2.2.length xc))) := by rw [row_at arcX 8 arcX_len hx ro' 8, ← hxv]; rfl
        have z0 : (0 : Int) ≤ (i : Int) := by omega
        have w9 : IntKind.i64.wrap ((i : Int) + 1) = ((i + 1 : Nat) : Int) := by rw [wri (by omega) (by omega)]; omega
        obtain ⟨b4, hb4⟩ : ∃ b, b = M2.size := ⟨_, rfl⟩
        obtain ⟨M3, hM3⟩ : ∃ X, X = M2.push (.cells false sA (archC noHead (.slice none 0 0)).toList) := ⟨_, rfl⟩
        have g43 : M3.get b4 = some (.cells false sA (archC noHead (.slice none 0 0)).toList) := by rw [hM3, hb4, Mem.get_push_new]
        obtain ⟨M4, hM4⟩ : ∃ X, X = M3.set b4 (some (.cells false sA (archC x.1 (.slice xa x.2.2.length xc)).toList)) := ⟨_, rfl⟩
        have g44 : M4.get b4 = some (.cells false sA (archC x.1 (.slice xa x.2.2.length xc)).toList) := by rw [hM4]; exact Mem.get_set_same g43 _
        have mo4 : More M2 M4 := by
          rw [hM4, hM3]
          exact More.setAt (More.push M2 _) (by omega) _
        have g14 := mo4.get _ _ g12
        simp only [zZ, reduceIte, Nat.reduceLT, Int.reduceToNat, Int.reduceLE, Int.reduceEq, Int.reduceLT, Nat.reduceEqDiff, Nat.reduceAdd, zDk, pd_eql, pd_neq, pd_eql0, pd_neq0, zPt]
        refine CW_seq (CW_block (CW_seq (CW_region ?_)))
        simp only [zZ, reduceIte, Nat.reduceLT, Int.reduceToNat, Int.reduceLE, Int.reduceEq, Int.reduceLT, Nat.reduceEqDiff, Nat.reduceAdd, zDk, pd_eql, pd_neq, pd_eql0, pd_neq0, zPt, Tryz.underlying55, inf_MO, sz_MO, ld_MOs, ld_MO, st_MO, z0, hiK, and_self, hg2, Int.toNat_natCast, rw8, halA, agg8]
        rw [← hM3, ← hb4]
        simp only [zZ, reduceIte, Nat.reduceLT, Int.reduceToNat, Int.reduceLE, Int.reduceEq, Int.reduceLT, Nat.reduceEqDiff, Nat.reduceAdd, zDk, pd_eql, pd_neq, pd_eql0, pd_neq0, zPt, g43, put8]
        rw [← hM4]
        refine CW_seq (CW_region ?_)
        simp only [zZ, reduceIte, Nat.reduceLT, Int.reduceToNat, Int.reduceLE, Int.reduceEq, Int.reduceLT, Nat.reduceEqDiff, Nat.reduceAdd, zDk, pd_eql, pd_neq, pd_eql0, pd_neq0, zPt, fa_S0, g14, g44, c80]
        refine ⟨by kernel_rfl, _, mfind_spec P hp M4 _ (hP.same fun b y hb => mo4.get b y (mo02.get b y hb)) x.1.id, ?_⟩
        rintro u M5 ⟨⟨r, hr, hu⟩, mo5⟩
        cases r with
        | none =>
          replace hu : u = .tuple #[.agg (archC noHead (.slice none 0 0)), .bool false] := hu
          subst hu
          obtain ⟨b5, hb5⟩ : ∃ b, b = M5.size := ⟨_, rfl⟩
          obtain ⟨M6, hM6⟩ : ∃ X, X = M5.push (.cells false sA (archC noHead (.slice none 0 0)).toList) := ⟨_, rfl⟩
          have g56 : M6.get b5 = some (.cells false sA (archC noHead (.slice none 0 0)).toList) := by rw [hM6, hb5, Mem.get_push_new]
          obtain ⟨M7, hM7⟩ : ∃ X, X = M6.set b5 (some (.cells false sA (archC noHead (.slice none 0 0)).toList)) := ⟨_, rfl⟩
          have g57 : M7.get b5 = some (.cells false sA (archC noHead (.slice none 0 0)).toList) := by rw [hM7]; exact Mem.get_set_same g56 _
          have mo7 : More M5 M7 := by
            rw [hM7, hM6]
            exact More.setAt (More.push M5 _) (by omega) _
          simp only [zZ, reduceIte, Nat.reduceLT, Int.reduceToNat, Int.reduceLE, Int.reduceEq, Int.reduceLT, Nat.reduceEqDiff, Nat.reduceAdd, zDk, pd_eql, pd_neq, pd_eql0, pd_neq0, zPt, halA, agg8]
          rw [← hM6, ← hb5]
          simp only [zZ, reduceIte, Nat.reduceLT, Int.reduceToNat, Int.reduceLE, Int.reduceEq, Int.reduceLT, Nat.reduceEqDiff, Nat.reduceAdd, zDk, pd_eql, pd_neq, pd_eql0, pd_neq0, zPt, g56, put8]
          rw [← hM7]
          have hbad : badK P x = 8 := by unfold badK; rw [findA_none hr]
          refine CW_seq (CW_seq (CW_region ?_))
          simp only [zZ, reduceIte, Nat.reduceLT, Int.reduceToNat, Int.reduceLE, Int.reduceEq, Int.reduceLT, Nat.reduceEqDiff, Nat.reduceAdd, zDk, pd_eql, pd_neq, pd_eql0, pd_neq0, zPt]
          refine CW_cond true (by rfl) (fun _ => CW_seq (CW_region ?_)) (fun h => by cases h)
          simp only [zZ, reduceIte, Nat.reduceLT, Int.reduceToNat, Int.reduceLE, Int.reduceEq, Int.reduceLT, Nat.reduceEqDiff, Nat.reduceAdd, zDk, pd_eql, pd_neq, pd_eql0, pd_neq0, zPt]
          refine CW_ret ?_
          simp only [zZ, reduceIte, Nat.reduceLT, Int.reduceToNat, Int.reduceLE, Int.reduceEq, Int.reduceLT, Nat.reduceEqDiff, Nat.reduceAdd, zDk, pd_eql, pd_neq, pd_eql0, pd_neq0, zPt, mEnd, sAnswer, sAnswer.sRes]
          exact ⟨_, Thin.refl _, by rw [soundV_k hz hx (by rw [hbad]; decide), hbad], ((mo02.trans mo4).trans mo5).trans mo7⟩
        | some i2 =>
          obtain ⟨a, ha, hu⟩ := hu
          subst hu
          have hab := hP.2 a (List.mem_of_getElem? ha)
          obtain ⟨aa, ac, hav⟩ := hab.1.len
          rw [hav]
          obtain ⟨b5, hb5⟩ : ∃ b, b = M5.size := ⟨_, rfl⟩
          obtain ⟨M6, hM6⟩ : ∃ X, X = M5.push (.cells false sA (archC noHead (.slice none 0 0)).toList) := ⟨_, rfl⟩
          have g56 : M6.get b5 = some (.cells false sA (archC noHead (.slice none 0 0)).toList) := by rw [hM6, hb5, Mem.get_push_new]
          obtain ⟨M7, hM7⟩ : ∃ X, X = M6.set b5 (some (.cells false sA (archC a.1 (.slice aa a.2.2.length ac)).toList)) := ⟨_, rfl⟩
          have g57 : M7.get b5 = some (.cells false sA (archC a.1 (.slice aa a.2.2.length ac)).toList) := by rw [hM7]; exact Mem.get_set_same g56 _
          have mo7 : More M5 M7 := by
            rw [hM7, hM6]
            exact More.setAt (More.push M5 _) (by omega) _
          simp only [zZ, reduceIte, Nat.reduceLT, Int.reduceToNat, Int.reduceLE, Int.reduceEq, Int.reduceLT, Nat.reduceEqDiff, Nat.reduceAdd, zDk, pd_eql, pd_neq, pd_eql0, pd_neq0, zPt, halA, agg8]
          rw [← hM6, ← hb5]
          simp only [zZ, reduceIte, Nat.reduceLT, Int.reduceToNat, Int.reduceLE, Int.reduceEq, Int.reduceLT, Nat.reduceEqDiff, Nat.reduceAdd, zDk, pd_eql, pd_neq, pd_eql0, pd_neq0, zPt, g56, put8]
          rw [← hM7]
          refine CW_seq (CW_seq (CW_region ?_))
          simp only [zZ, reduceIte, Nat.reduceLT, Int.reduceToNat, Int.reduceLE, Int.reduceEq, Int.reduceLT, Nat.reduceEqDiff, Nat.reduceAdd, zDk, pd_eql, pd_neq, pd_eql0, pd_neq0, zPt]
          refine CW_cond false (by rfl) (fun h => by cases h) (fun _ => CW_skip ?_)
          simp only [zZ, reduceIte, Nat.reduceLT, Int.reduceToNat, Int.reduceLE, Int.reduceEq, Int.reduceLT, Nat.reduceEqDiff, Nat.reduceAdd, zDk, pd_eql, pd_neq, pd_eql0, pd_neq0, zPt]
          have mo47 := mo5.trans mo7
          have mo07 := (mo02.trans mo4).trans mo47
          have g47 := mo47.get _ _ g44
          refine CW_seq (CW_region ?_)
          simp only [zZ, reduceIte, Nat.reduceLT, Int.reduceToNat, Int.reduceLE, Int.reduceEq, Int.reduceLT, Nat.reduceEqDiff, Nat.reduceAdd, zDk, pd_eql, pd_neq, pd_eql0, pd_neq0, zPt, g57, g47, row8]
          have rx := (hK.2 x (List.mem_of_getElem? hx)).1.same mo07.get
          have ra := hab.1.same mo07.get
          rw [hxv] at rx
          rw [hav] at ra
          refine ⟨by kernel_rfl, _, same_at M7 a.1 x.1 _ _ a.2.2 x.2.2 ra rx hab.2, ?_⟩
          rintro _ M8 ⟨rfl, e8⟩
          subst e8
          cases hs : sameArch a.1 x.1 a.2.2 x.2.2 with
          | false =>
            have hbad : badK P x = 11 := by unfold badK; rw [findA_some hr ha]; simp [hs]
            simp only [zZ, reduceIte, Nat.reduceLT, Int.reduceToNat, Int.reduceLE, Int.reduceEq, Int.reduceLT, Nat.reduceEqDiff, Nat.reduceAdd, zDk, pd_eql, pd_neq, pd_eql0, pd_neq0, zPt]
            refine CW_cond true (by rfl) (fun _ => CW_seq (CW_region ?_)) (fun h => by cases h)
            simp only [zZ, reduceIte, Nat.reduceLT, Int.reduceToNat, Int.reduceLE, Int.reduceEq, Int.reduceLT, Nat.reduceEqDiff, Nat.reduceAdd, zDk, pd_eql, pd_neq, pd_eql0, pd_neq0, zPt]
            refine CW_ret ?_
            simp only [zZ, reduceIte, Nat.reduceLT, Int.reduceToNat, Int.reduceLE, Int.reduceEq, Int.reduceLT, Nat.reduceEqDiff, Nat.reduceAdd, zDk, pd_eql, pd_neq, pd_eql0, pd_neq0, zPt, mEnd, sAnswer, sAnswer.sRes]
            exact ⟨_, Thin.refl _, by rw [soundV_k hz hx (by rw [hbad]; decide), hbad], mo07⟩
          | true =>
            have hbad : badK P x = 0 := by unfold badK; rw [findA_some hr ha]; simp [hs]
            simp only [zZ, reduceIte, Nat.reduceLT, Int.reduceToNat, Int.reduceLE, Int.reduceEq, Int.reduceLT, Nat.reduceEqDiff, Nat.reduceAdd, zDk, pd_eql, pd_neq, pd_eql0, pd_neq0, zPt]
            refine CW_cond false (by rfl) (fun h => by cases h) (fun _ => CW_skip ?_)
            simp only [zZ, reduceIte, Nat.reduceLT, Int.reduceToNat, Int.reduceLE, Int.reduceEq, Int.reduceLT, Nat.reduceEqDiff, Nat.reduceAdd, zDk, pd_eql, pd_neq, pd_eql0, pd_neq0, zPt]
            refine CW_region ?_
            simp only [zZ, reduceIte, Nat.reduceLT, Int.reduceToNat, Int.reduceLE, Int.reduceEq, Int.reduceLT, Nat.reduceEqDiff, Nat.reduceAdd, zDk, pd_eql, pd_neq, pd_eql0, pd_neq0, zPt, w9]
            refine ⟨[1, 14, 15, 16], ?_⟩
            simp only [zZ, reduceIte, Nat.reduceLT, Int.reduceToNat, Int.reduceLE, Int.reduceEq, Int.reduceLT, Nat.reduceEqDiff, Nat.reduceAdd, zDk, pd_eql, pd_neq, pd_eql0, pd_neq0, zPt, keepF]
            exact ⟨_, Thin.refl _, K.length - (i + 1), ⟨i + 1, rfl, rfl, by omega, nz_step hz (by rw [List.getElem?_map, hx]; exact congrArg some hbad), (mo2.trans mo4).trans mo47⟩, by omega⟩
      · have hiK := of_decide_eq_false hq
        simp only [zZ, reduceIte, Nat.reduceLT, Int.reduceToNat, Int.reduceLE, Int.reduceEq, Int.reduceLT, Nat.reduceEqDiff, Nat.reduceAdd, zDk, pd_eql, pd_neq, pd_eql0, pd_neq0, zPt]
        refine ⟨[1], ?_⟩
        simp only [zZ, reduceIte, Nat.reduceLT, Int.reduceToNat, Int.reduceLE, Int.reduceEq, Int.reduceLT, Nat.reduceEqDiff, Nat.reduceAdd, zDk, pd_eql, pd_neq, pd_eql0, pd_neq0, zPt, keepF]
        exact ⟨_, Thin.refl _, nz_end hz (by rw [List.length_map]; omega), mo2⟩
  · rintro f Ma ⟨rfl, hKz, moa⟩
    have g1a := moa.get _ _ g1
    have row13 : ∀ (s : Nat) (o : OpX), rowIn 13 0 (some (.cells false s (moC o))) = some (.agg (moC o).toArray) := fun _ _ => rfl
    have agg13 : ∀ o, (Value.agg (moC o).toArray).cells.toList = moC o := fun _ => rfl
    have put13 : ∀ (M0 : Mem) (b : Nat) (o : OpX) (h : Header) (S : List Bool) (a : Option Addr) (n c : Nat) (bl : List ByteArray), putIn 13 M0 b 0 (moC ⟨h, S, .slice a n c, bl⟩) (some (.cells false sO (moC o))) = some (M0.set b (some (.cells false sO (moC ⟨h, S, .slice a n c, bl⟩)))) := fun _ _ _ _ _ _ _ _ _ => rfl
    have row7A : ∀ (s : Nat) (h : Header) V, rowIn 7 0 (some (.cells false s (archC h V).toList)) = some (.agg h.cells.toArray) := fun _ _ _ => rfl
    have row7O : ∀ (s : Nat) (o : OpX), rowIn 7 0 (some (.cells false s (moC o))) = some (.agg o.head.cells.toArray) := fun _ _ => rfl
    have row5O : ∀ (s : Nat) (o : OpX), rowIn 5 7 (some (.cells false s (moC o))) = some (setV o.set) := fun _ _ => rfl
    have c2A : ∀ (s : Nat) (h : Header) V, cellIn 2 (some (.cells false s (archC h V).toList)) = some (.int .i64 h.n) := fun _ _ _ => rfl
    have c7A : ∀ (s : Nat) (h : Header) V, cellIn 7 (some (.cells false s (archC h V).toList)) = some V := fun _ _ _ => rfl
    have c0O : ∀ (s : Nat) (o : OpX), cellIn 0 (some (.cells false s (moC o))) = some (.int .i64 o.head.id) := fun _ _ => rfl
    have c12O : ∀ (s : Nat) (o : OpX), cellIn 12 (some (.cells false s (moC o))) = some o.bv := fun _ _ => rfl
    refine MW_mid (fun f M' => f = [] ∧ firstNZ (O.map (badO P)) = 0 ∧ More M1 M') ?_ ?_
    · refine CW_seq (CW_region ?_)
      simp only [zZ, reduceIte, Nat.reduceLT, Int.reduceToNat, Int.reduceLE, Int.reduceEq, Int.reduceLT, Nat.reduceEqDiff, Nat.reduceAdd, zDk, pd_eql, pd_neq, pd_eql0, pd_neq0, zPt, fa_S2, g1a, Tryz.underlying55, inf_MO, sz_MO, ld_MOs, ld_MO, st_MO]
      refine CW_block (MW_loop (fun j f M' => ∃ i : Nat, j = O.length - i ∧ f = [(1, .pointer (some ⟨b1, 0, none⟩)), (37, .slice pO O.length cO), (38, .int .i64 (O.length : Nat)), (39, .int .i64 (i : Nat))] ∧ i ≤ O.length ∧ firstNZ ((O.map (badO P)).take i) = 0 ∧ More M1 M') O.length ?_ ?_)
      · refine ⟨[1, 37, 38, 39], ?_⟩
        simp only [zZ, reduceIte, Nat.reduceLT, Int.reduceToNat, Int.reduceLE, Int.reduceEq, Int.reduceLT, Nat.reduceEqDiff, Nat.reduceAdd, zDk, pd_eql, pd_neq, pd_eql0, pd_neq0, zPt, keepF]
        exact ⟨Ma, Thin.refl _, 0, rfl, rfl, by omega, rfl, moa⟩
      · rintro j f M2 ⟨i, rfl, rfl, hi, hz, mo2⟩
        refine CW_seq (CW_region ?_)
        simp only [zZ, reduceIte, Nat.reduceLT, Int.reduceToNat, Int.reduceLE, Int.reduceEq, Int.reduceLT, Nat.reduceEqDiff, Nat.reduceAdd, zDk, pd_eql, pd_neq, pd_eql0, pd_neq0, zPt]
        refine CW_seq (CW_cond (decide ((i : Int) < (O.length : Int))) (by rfl) (fun hq => CW_skip ?_) (fun hq => CW_exit ?_))
        · have hiO := of_decide_eq_true hq
          obtain ⟨x, hx⟩ : ∃ x, O[i]? = some x := ⟨_, List.getElem?_eq_getElem (by omega)⟩
          obtain ⟨g, ro', rfl, hg⟩ := hO.at hx
          have mo02 := mo1.trans mo2
          have hg2 := mo02.get _ _ hg
          have g12 := mo2.get _ _ g1
          obtain ⟨hxb, hxl, hxs⟩ := hO.2 x (List.mem_of_getElem? hx)
          obtain ⟨xa, xc, hxv⟩ := hxb.len
          have rw13 : rowIn 13 (i * 13) (some (.cells ro' 13 (O.flatMap moC))) = some (.agg (moC ⟨x.head, x.set, .slice xa x.bl.length xc, x.bl⟩).toArray) := by rw [row_at moC 13 moC_len hx ro' 13, ← hxv]
          have z0 : (0 : Int) ≤ (i : Int) := by omega
          have w9 : IntKind.i64.wrap ((i : Int) + 1) = ((i + 1 : Nat) : Int) := by rw [wri (by omega) (by omega)]; omega
          obtain ⟨b8, hb8⟩ : ∃ b, b = M2.size := ⟨_, rfl⟩
          obtain ⟨M3, hM3⟩ : ∃ X, X = M2.push (.cells false sO (moC ⟨noHead, [], .slice none 0 0, []⟩)) := ⟨_, rfl⟩
          have g83 : M3.get b8 = some (.cells false sO (moC ⟨noHead, [], .slice none 0 0, []⟩)) := by rw [hM3, hb8, Mem.get_push_new]
          obtain ⟨M4, hM4⟩ : ∃ X, X = M3.set b8 (some (.cells false sO (moC ⟨x.head, x.set, .slice xa x.bl.length xc, x.bl⟩))) := ⟨_, rfl⟩
          have g84 : M4.get b8 = some (.cells false sO (moC ⟨x.head, x.set, .slice xa x.bl.length xc, x.bl⟩)) := by rw [hM4]; exact Mem.get_set_same g83 _
          have mo4 : More M2 M4 := by
            rw [hM4, hM3]
            exact More.setAt (More.push M2 _) (by omega) _
          have g14 := mo4.get _ _ g12
          simp only [zZ, reduceIte, Nat.reduceLT, Int.reduceToNat, Int.reduceLE, Int.reduceEq, Int.reduceLT, Nat.reduceEqDiff, Nat.reduceAdd, zDk, pd_eql, pd_neq, pd_eql0, pd_neq0, zPt]
          refine CW_seq (CW_block (CW_seq (CW_region ?_)))
          simp only [zZ, reduceIte, Nat.reduceLT, Int.reduceToNat, Int.reduceLE, Int.reduceEq, Int.reduceLT, Nat.reduceEqDiff, Nat.reduceAdd, zDk, pd_eql, pd_neq, pd_eql0, pd_neq0, zPt, Tryz.underlying55, inf_MO, sz_MO, ld_MOs, ld_MO, st_MO, z0, hiO, and_self, hg2, Int.toNat_natCast, rw13, halO, agg13]
          rw [← hM3, ← hb8]
          simp only [zZ, reduceIte, Nat.reduceLT, Int.reduceToNat, Int.reduceLE, Int.reduceEq, Int.reduceLT, Nat.reduceEqDiff, Nat.reduceAdd, zDk, pd_eql, pd_neq, pd_eql0, pd_neq0, zPt, g83, put13]
          rw [← hM4]
          refine CW_seq (CW_region ?_)
          simp only [zZ, reduceIte, Nat.reduceLT, Int.reduceToNat, Int.reduceLE, Int.reduceEq, Int.reduceLT, Nat.reduceEqDiff, Nat.reduceAdd, zDk, pd_eql, pd_neq, pd_eql0, pd_neq0, zPt, fa_S0, g14, fa_O0, g84, c0O]
          refine ⟨by kernel_rfl, _, mfind_spec P hp M4 _ (hP.same fun b y hb => mo4.get b y (mo02.get b y hb)) x.head.id, ?_⟩
          rintro u M5 ⟨⟨r, hr, hu⟩, mo5⟩
          cases r with
          | none =>
            replace hu : u = .tuple #[.agg (archC noHead (.slice none 0 0)), .bool false] := hu
            subst hu
            obtain ⟨b5, hb5⟩ : ∃ b, b = M5.size := ⟨_, rfl⟩
            obtain ⟨M6, hM6⟩ : ∃ X, X = M5.push (.cells false sA (archC noHead (.slice none 0 0)).toList) := ⟨_, rfl⟩
            have g56 : M6.get b5 = some (.cells false sA (archC noHead (.slice none 0 0)).toList) := by rw [hM6, hb5, Mem.get_push_new]
            obtain ⟨M7, hM7⟩ : ∃ X, X = M6.set b5 (some (.cells false sA (archC noHead (.slice none 0 0)).toList)) := ⟨_, rfl⟩
            have g57 : M7.get b5 = some (.cells false sA (archC noHead (.slice none 0 0)).toList) := by rw [hM7]; exact Mem.get_set_same g56 _
            have mo7 : More M5 M7 := by
              rw [hM7, hM6]
              exact More.setAt (More.push M5 _) (by omega) _
            simp only [zZ, reduceIte, Nat.reduceLT, Int.reduceToNat, Int.reduceLE, Int.reduceEq, Int.reduceLT, Nat.reduceEqDiff, Nat.reduceAdd, zDk, pd_eql, pd_neq, pd_eql0, pd_neq0, zPt, halA, agg8]
            rw [← hM6, ← hb5]
            simp only [zZ, reduceIte, Nat.reduceLT, Int.reduceToNat, Int.reduceLE, Int.reduceEq, Int.reduceLT, Nat.reduceEqDiff, Nat.reduceAdd, zDk, pd_eql, pd_neq, pd_eql0, pd_neq0, zPt, g56, put8]
            rw [← hM7]
            have hbad : badO P x = 8 := by unfold badO; rw [findA_none hr]
            refine CW_seq (CW_seq (CW_region ?_))
            simp only [zZ, reduceIte, Nat.reduceLT, Int.reduceToNat, Int.reduceLE, Int.reduceEq, Int.reduceLT, Nat.reduceEqDiff, Nat.reduceAdd, zDk, pd_eql, pd_neq, pd_eql0, pd_neq0, zPt]
            refine CW_cond true (by rfl) (fun _ => CW_seq (CW_region ?_)) (fun h => by cases h)
            simp only [zZ, reduceIte, Nat.reduceLT, Int.reduceToNat, Int.reduceLE, Int.reduceEq, Int.reduceLT, Nat.reduceEqDiff, Nat.reduceAdd, zDk, pd_eql, pd_neq, pd_eql0, pd_neq0, zPt]
            refine CW_ret ?_
            simp only [zZ, reduceIte, Nat.reduceLT, Int.reduceToNat, Int.reduceLE, Int.reduceEq, Int.reduceLT, Nat.reduceEqDiff, Nat.reduceAdd, zDk, pd_eql, pd_neq, pd_eql0, pd_neq0, zPt, mEnd, sAnswer, sAnswer.sRes]
            exact ⟨_, Thin.refl _, by rw [soundV_o hKz hz hx (by rw [hbad]; decide), hbad], ((mo02.trans mo4).trans mo5).trans mo7⟩
          | some i2 =>
            obtain ⟨a, ha, hu⟩ := hu
            subst hu
            have hab := hP.2 a (List.mem_of_getElem? ha)
            obtain ⟨aa, ac, hav⟩ := hab.1.len
            rw [hav]
            obtain ⟨b5, hb5⟩ : ∃ b, b = M5.size := ⟨_, rfl⟩
            obtain ⟨M6, hM6⟩ : ∃ X, X = M5.push (.cells false sA (archC noHead (.slice none 0 0)).toList) := ⟨_, rfl⟩
            have g56 : M6.get b5 = some (.cells false sA (archC noHead (.slice none 0 0)).toList) := by rw [hM6, hb5, Mem.get_push_new]
            obtain ⟨M7, hM7⟩ : ∃ X, X = M6.set b5 (some (.cells false sA (archC a.1 (.slice aa a.2.2.length ac)).toList)) := ⟨_, rfl⟩
            have g57 : M7.get b5 = some (.cells false sA (archC a.1 (.slice aa a.2.2.length ac)).toList) := by rw [hM7]; exact Mem.get_set_same g56 _
            have mo7 : More M5 M7 := by
              rw [hM7, hM6]
              exact More.setAt (More.push M5 _) (by omega) _
            simp only [zZ, reduceIte, Nat.reduceLT, Int.reduceToNat, Int.reduceLE, Int.reduceEq, Int.reduceLT, Nat.reduceEqDiff, Nat.reduceAdd, zDk, pd_eql, pd_neq, pd_eql0, pd_neq0, zPt, halA, agg8]
            rw [← hM6, ← hb5]
            simp only [zZ, reduceIte, Nat.reduceLT, Int.reduceToNat, Int.reduceLE, Int.reduceEq, Int.reduceLT, Nat.reduceEqDiff, Nat.reduceAdd, zDk, pd_eql, pd_neq, pd_eql0, pd_neq0, zPt, g56, put8]
            rw [← hM7]
            refine CW_seq (CW_seq (CW_region ?_))
            simp only [zZ, reduceIte, Nat.reduceLT, Int.reduceToNat, Int.reduceLE, Int.reduceEq, Int.reduceLT, Nat.reduceEqDiff, Nat.reduceAdd, zDk, pd_eql, pd_neq, pd_eql0, pd_neq0, zPt]
            refine CW_cond false (by rfl) (fun h => by cases h) (fun _ => CW_skip ?_)
            simp only [zZ, reduceIte, Nat.reduceLT, Int.reduceToNat, Int.reduceLE, Int.reduceEq, Int.reduceLT, Nat.reduceEqDiff, Nat.reduceAdd, zDk, pd_eql, pd_neq, pd_eql0, pd_neq0, zPt]
            have mo47 := mo5.trans mo7
            have mo07 := (mo02.trans mo4).trans mo47
            have g87 := mo47.get _ _ g84
            have rx := hxb.same mo07.get
            have ra := hab.1.same mo07.get
            rw [hxv] at rx
            rw [hav] at ra
            refine CW_seq (CW_seq (CW_drawG hmix 21 (by kernel_rfl) (by kernel_rfl) ?_))
            cases q1 : sameH a.1 x.head with
            | false =>
              have hbad : badO P x = 11 := by unfold badO; rw [findA_some hr ha]; simp [q1]
              simp only [zZ, reduceIte, Nat.reduceLT, Int.reduceToNat, Int.reduceLE, Int.reduceEq, Int.reduceLT, Nat.reduceEqDiff, Nat.reduceAdd, zDk, pd_eql, pd_neq, pd_eql0, pd_neq0, zPt, sPhGB, sHeadGB, sHOneG, sHOpG, isVal, sGuardedV, app_none, emp_nil, Nat.reduceSub, Nat.sub_zero, fa_O0, fa_O1, fa_O2, g57, g87, row7A, row7O, row5O, c2A, c7A, c12O, hdr_neq, q1]
              refine CW_cond true (by rfl) (fun _ => CW_seq (CW_region ?_)) (fun h => by cases h)
              simp only [zZ, reduceIte, Nat.reduceLT, Int.reduceToNat, Int.reduceLE, Int.reduceEq, Int.reduceLT, Nat.reduceEqDiff, Nat.reduceAdd, zDk, pd_eql, pd_neq, pd_eql0, pd_neq0, zPt]
              refine CW_ret ?_
              simp only [zZ, reduceIte, Nat.reduceLT, Int.reduceToNat, Int.reduceLE, Int.reduceEq, Int.reduceLT, Nat.reduceEqDiff, Nat.reduceAdd, zDk, pd_eql, pd_neq, pd_eql0, pd_neq0, zPt, mEnd, sAnswer, sAnswer.sRes]
              exact ⟨_, Thin.refl _, by rw [soundV_o hKz hz hx (by rw [hbad]; decide), hbad], mo07⟩
            | true =>
            cases q2 : (((x.set.length : Nat) : Int) != a.1.n) with
            | true =>
              have hbad : badO P x = 11 := by
                have h1 : ¬ (((x.set.length : Nat) : Int) = a.1.n) := by simpa using q2
                unfold badO; rw [findA_some hr ha]; simp [q1, h1]
              simp only [zZ, reduceIte, Nat.reduceLT, Int.reduceToNat, Int.reduceLE, Int.reduceEq, Int.reduceLT, Nat.reduceEqDiff, Nat.reduceAdd, zDk, pd_eql, pd_neq, pd_eql0, pd_neq0, zPt, sPhGB, sHeadGB, sHOneG, sHOpG, isVal, sGuardedV, app_none, emp_nil, Nat.reduceSub, Nat.sub_zero, fa_O0, fa_O1, fa_O2, g57, g87, row7A, row7O, row5O, c2A, c7A, c12O, hdr_neq, q1]
              refine ⟨by kernel_rfl, _, [], at0_md (size_at x.set M7), rfl, ?_⟩
              simp only [zZ, reduceIte, Nat.reduceLT, Int.reduceToNat, Int.reduceLE, Int.reduceEq, Int.reduceLT, Nat.reduceEqDiff, Nat.reduceAdd, zDk, pd_eql, pd_neq, pd_eql0, pd_neq0, zPt, sPhGB, sHeadGB, sHOneG, sHOpG, isVal, sGuardedV, app_none, emp_nil, Nat.reduceSub, Nat.sub_zero, fa_O0, fa_O1, fa_O2, g57, g87, row7A, row7O, row5O, c2A, c7A, c12O, hdr_neq, q1, q2]
              refine CW_cond true (by rfl) (fun _ => CW_seq (CW_region ?_)) (fun h => by cases h)
              simp only [zZ, reduceIte, Nat.reduceLT, Int.reduceToNat, Int.reduceLE, Int.reduceEq, Int.reduceLT, Nat.reduceEqDiff, Nat.reduceAdd, zDk, pd_eql, pd_neq, pd_eql0, pd_neq0, zPt]
              refine CW_ret ?_
              simp only [zZ, reduceIte, Nat.reduceLT, Int.reduceToNat, Int.reduceLE, Int.reduceEq, Int.reduceLT, Nat.reduceEqDiff, Nat.reduceAdd, zDk, pd_eql, pd_neq, pd_eql0, pd_neq0, zPt, mEnd, sAnswer, sAnswer.sRes]
              exact ⟨_, Thin.refl _, by rw [soundV_o hKz hz hx (by rw [hbad]; decide), hbad], mo07⟩
            | false =>
            have e2 : ((x.set.length : Nat) : Int) = a.1.n := by simpa using q2
            cases q3 : (((x.bl.length : Nat) : Int) != ((countT x.set : Nat) : Int)) with
            | true =>
              have hbad : badO P x = 11 := by
                have h1 : ¬ (x.bl.length = countT x.set) := fun e => by rw [e] at q3; simp at q3
                unfold badO; rw [findA_some hr ha]; simp [q1, e2, h1]
              simp only [zZ, reduceIte, Nat.reduceLT, Int.reduceToNat, Int.reduceLE, Int.reduceEq, Int.reduceLT, Nat.reduceEqDiff, Nat.reduceAdd, zDk, pd_eql, pd_neq, pd_eql0, pd_neq0, zPt, sPhGB, sHeadGB, sHOneG, sHOpG, isVal, sGuardedV, app_none, emp_nil, Nat.reduceSub, Nat.sub_zero, fa_O0, fa_O1, fa_O2, g57, g87, row7A, row7O, row5O, c2A, c7A, c12O, hdr_neq, q1]
              refine ⟨by kernel_rfl, _, [], at0_md (size_at x.set M7), rfl, ?_⟩
              simp only [zZ, reduceIte, Nat.reduceLT, Int.reduceToNat, Int.reduceLE, Int.reduceEq, Int.reduceLT, Nat.reduceEqDiff, Nat.reduceAdd, zDk, pd_eql, pd_neq, pd_eql0, pd_neq0, zPt, sPhGB, sHeadGB, sHOneG, sHOpG, isVal, sGuardedV, app_none, emp_nil, Nat.reduceSub, Nat.sub_zero, fa_O0, fa_O1, fa_O2, g57, g87, row7A, row7O, row5O, c2A, c7A, c12O, hdr_neq, q1, q2]
              refine ⟨by kernel_rfl, _, [], at0_md (count_at x.set hxs M7), rfl, ?_⟩
              simp only [zZ, reduceIte, Nat.reduceLT, Int.reduceToNat, Int.reduceLE, Int.reduceEq, Int.reduceLT, Nat.reduceEqDiff, Nat.reduceAdd, zDk, pd_eql, pd_neq, pd_eql0, pd_neq0, zPt, sPhGB, sHeadGB, sHOneG, sHOpG, isVal, sGuardedV, app_none, emp_nil, Nat.reduceSub, Nat.sub_zero, fa_O0, fa_O1, fa_O2, g57, g87, row7A, row7O, row5O, c2A, c7A, c12O, hdr_neq, q1, q2, q3]
              refine CW_cond true (by rfl) (fun _ => CW_seq (CW_region ?_)) (fun h => by cases h)
              simp only [zZ, reduceIte, Nat.reduceLT, Int.reduceToNat, Int.reduceLE, Int.reduceEq, Int.reduceLT, Nat.reduceEqDiff, Nat.reduceAdd, zDk, pd_eql, pd_neq, pd_eql0, pd_neq0, zPt]
              refine CW_ret ?_
              simp only [zZ, reduceIte, Nat.reduceLT, Int.reduceToNat, Int.reduceLE, Int.reduceEq, Int.reduceLT, Nat.reduceEqDiff, Nat.reduceAdd, zDk, pd_eql, pd_neq, pd_eql0, pd_neq0, zPt, mEnd, sAnswer, sAnswer.sRes]
              exact ⟨_, Thin.refl _, by rw [soundV_o hKz hz hx (by rw [hbad]; decide), hbad], mo07⟩
            | false =>
            have e3 : x.bl.length = countT x.set := by
              have : ((x.bl.length : Nat) : Int) = ((countT x.set : Nat) : Int) := by simpa using q3
              omega
            have hS : (posB x.set).length = x.bl.length := by rw [posB_count, e3]
            have hbad : badO P x = firstNZ ((List.range (posB x.set).length).map (blkC x.bl a.2.2 (posB x.set))) := by
              unfold badO; rw [findA_some hr ha]; simp [q1, e2, e3]
            simp only [zZ, reduceIte, Nat.reduceLT, Int.reduceToNat, Int.reduceLE, Int.reduceEq, Int.reduceLT, Nat.reduceEqDiff, Nat.reduceAdd, zDk, pd_eql, pd_neq, pd_eql0, pd_neq0, zPt, sPhGB, sHeadGB, sHOneG, sHOpG, isVal, sGuardedV, app_none, emp_nil, Nat.reduceSub, Nat.sub_zero, fa_O0, fa_O1, fa_O2, g57, g87, row7A, row7O, row5O, c2A, c7A, c12O, hdr_neq, q1]
            refine ⟨by kernel_rfl, _, [], at0_md (size_at x.set M7), rfl, ?_⟩
            simp only [zZ, reduceIte, Nat.reduceLT, Int.reduceToNat, Int.reduceLE, Int.reduceEq, Int.reduceLT, Nat.reduceEqDiff, Nat.reduceAdd, zDk, pd_eql, pd_neq, pd_eql0, pd_neq0, zPt, sPhGB, sHeadGB, sHOneG, sHOpG, isVal, sGuardedV, app_none, emp_nil, Nat.reduceSub, Nat.sub_zero, fa_O0, fa_O1, fa_O2, g57, g87, row7A, row7O, row5O, c2A, c7A, c12O, hdr_neq, q1, q2]
            refine ⟨by kernel_rfl, _, [], at0_md (count_at x.set hxs M7), rfl, ?_⟩
            simp only [zZ, reduceIte, Nat.reduceLT, Int.reduceToNat, Int.reduceLE, Int.reduceEq, Int.reduceLT, Nat.reduceEqDiff, Nat.reduceAdd, zDk, pd_eql, pd_neq, pd_eql0, pd_neq0, zPt, sPhGB, sHeadGB, sHOneG, sHOpG, isVal, sGuardedV, app_none, emp_nil, Nat.reduceSub, Nat.sub_zero, fa_O0, fa_O1, fa_O2, g57, g87, row7A, row7O, row5O, c2A, c7A, c12O, hdr_neq, q1, q2, q3]
            refine CW_cond false (by rfl) (fun h => by cases h) (fun _ => CW_skip ?_)
            simp only [zZ, reduceIte, Nat.reduceLT, Int.reduceToNat, Int.reduceLE, Int.reduceEq, Int.reduceLT, Nat.reduceEqDiff, Nat.reduceAdd, zDk, pd_eql, pd_neq, pd_eql0, pd_neq0, zPt]
            obtain ⟨W, N, hl1, hl2, hl3⟩ := slistx_exact x.set hxs M7
            obtain ⟨wa, wc, hW⟩ := hl3.len
            subst hW
            obtain ⟨M8, hM8⟩ : ∃ X, X = M7.app N := ⟨_, rfl⟩
            have mo8 : More M7 M8 := by rw [hM8]; exact ⟨fun b y hb => appM_keep M7 N b y hb, by rw [app_size]; omega⟩
            rw [← hM8] at hl3
            have g58 := mo8.get _ _ g57
            have g88 := mo8.get _ _ g87
            refine CW_seq (CW_region ?_)
            simp only [zZ, reduceIte, Nat.reduceLT, Int.reduceToNat, Int.reduceLE, Int.reduceEq, Int.reduceLT, Nat.reduceEqDiff, Nat.reduceAdd, zDk, pd_eql, pd_neq, pd_eql0, pd_neq0, zPt, fa_O1, g87, row5O]
            refine ⟨by kernel_rfl, _, hl1, ?_⟩
            rintro _ M9 ⟨rfl, e9⟩
            rw [← hM8] at e9; replace e9 := e9.symm; subst e9
            simp only [zZ, reduceIte, Nat.reduceLT, Int.reduceToNat, Int.reduceLE, Int.reduceEq, Int.reduceLT, Nat.reduceEqDiff, Nat.reduceAdd, zDk, pd_eql, pd_neq, pd_eql0, pd_neq0, zPt]
            refine CW_block (MW_loop (fun j f M' => ∃ k : Nat, j = (posB x.set).length - k ∧ f = [(1, .pointer (some ⟨b1, 0, none⟩)), (8, .pointer (some ⟨b8, 0, none⟩)), (9, .pointer (some ⟨b5, 0, none⟩)), (37, .slice (some ⟨g, 0, none⟩) O.length cO), (38, .int .i64 (O.length : Nat)), (39, .int .i64 (i : Nat)), (79, .slice wa (posB x.set).length wc), (80, .int .i64 ((posB x.set).length : Nat)), (81, .int .i64 (k : Nat))] ∧ k ≤ (posB x.set).length ∧ firstNZ (((List.range (posB x.set).length).map (blkC x.bl a.2.2 (posB x.set))).take k) = 0 ∧ M' = M8) (posB x.set).length ?_ ?_)
            · refine ⟨[1, 8, 9, 37, 38, 39, 79, 80, 81], ?_⟩
              simp only [zZ, reduceIte, Nat.reduceLT, Int.reduceToNat, Int.reduceLE, Int.reduceEq, Int.reduceLT, Nat.reduceEqDiff, Nat.reduceAdd, zDk, pd_eql, pd_neq, pd_eql0, pd_neq0, zPt, keepF]
              exact ⟨M8, Thin.refl _, 0, rfl, rfl, by omega, rfl, rfl⟩
            · rintro j f M9 ⟨k, rfl, rfl, hk9, hkz, e9⟩
              replace e9 := e9.symm; subst e9
              refine CW_seq (CW_region ?_)
              simp only [zZ, reduceIte, Nat.reduceLT, Int.reduceToNat, Int.reduceLE, Int.reduceEq, Int.reduceLT, Nat.reduceEqDiff, Nat.reduceAdd, zDk, pd_eql, pd_neq, pd_eql0, pd_neq0, zPt]
              refine CW_seq (CW_cond (decide ((k : Int) < (((posB x.set).length : Nat) : Int))) (by rfl) (fun hq => CW_skip ?_) (fun hq => CW_exit ?_))
              · have hkS := of_decide_eq_true hq
                obtain ⟨y, hy⟩ : ∃ y, (posB x.set)[k]? = some y := ⟨_, List.getElem?_eq_getElem (by omega)⟩
                obtain ⟨gw, rfl, _, hgw⟩ := hl3.at hy
                have cw : cellIn k (some (.cells false 1 ((posB x.set).flatMap encI))) = some (.int .i64 (y : Nat)) := cell_one (f := fun n : Nat => Value.int .i64 (n : Int)) hy false 1
                have zk : (0 : Int) ≤ (k : Int) := by omega
                have wk : IntKind.i64.wrap ((k : Int) + 1) = ((k + 1 : Nat) : Int) := by rw [wri (by omega) (by omega)]; omega
                obtain ⟨bk, hbk⟩ : ∃ z, x.bl[k]? = some z := ⟨_, List.getElem?_eq_getElem (by omega)⟩
                have hC : ((List.range (posB x.set).length).map (blkC x.bl a.2.2 (posB x.set)))[k]? = some (blkC x.bl a.2.2 (posB x.set) k) := by
                  rw [List.getElem?_map, List.getElem?_range (by omega)]; rfl
                simp only [zZ, reduceIte, Nat.reduceLT, Int.reduceToNat, Int.reduceLE, Int.reduceEq, Int.reduceLT, Nat.reduceEqDiff, Nat.reduceAdd, zDk, pd_eql, pd_neq, pd_eql0, pd_neq0, zPt]
                refine CW_seq (CW_block (CW_seq (CW_region ?_)))
                simp only [zZ, reduceIte, Nat.reduceLT, Int.reduceToNat, Int.reduceLE, Int.reduceEq, Int.reduceLT, Nat.reduceEqDiff, Nat.reduceAdd, zDk, pd_eql, pd_neq, pd_eql0, pd_neq0, zPt, zk, hkS, and_self, hgw, Int.toNat_natCast, cw]
                cases q4 : decide ((y : Int) ≥ ((a.2.2.length : Nat) : Int)) with
                | true =>
                  have hge := of_decide_eq_true q4
                  have hc : blkC x.bl a.2.2 (posB x.set) k = 11 := by
                    unfold blkC
                    rw [hy]
                    show (match a.2.2[y]? with | none => (11 : Int) | some z => if beqB (x.bl.getD k .empty) z = true then 0 else 11) = 11
                    rw [List.getElem?_eq_none (by omega)]
                  refine CW_seq (CW_drawG hmix 16 (by kernel_rfl) (by kernel_rfl) ?_)
                  simp only [zZ, reduceIte, Nat.reduceLT, Int.reduceToNat, Int.reduceLE, Int.reduceEq, Int.reduceLT, Nat.reduceEqDiff, Nat.reduceAdd, zDk, pd_eql, pd_neq, pd_eql0, pd_neq0, zPt, sPhGB, sHeadGB, sHOneG, sHOpG, isVal, sGuardedV, app_none, emp_nil, Nat.reduceSub, Nat.sub_zero, fa_Arc1, fa_O2, g58, g88, c7A, c12O, Tryz.underlying55, inf_MO, sz_MO, ld_MOs, ld_MO, st_MO, zk, q4]
                  refine CW_cond true (by rfl) (fun _ => CW_seq (CW_region ?_)) (fun h => by cases h)
                  simp only [zZ, reduceIte, Nat.reduceLT, Int.reduceToNat, Int.reduceLE, Int.reduceEq, Int.reduceLT, Nat.reduceEqDiff, Nat.reduceAdd, zDk, pd_eql, pd_neq, pd_eql0, pd_neq0, zPt]
                  refine CW_ret ?_
                  simp only [zZ, reduceIte, Nat.reduceLT, Int.reduceToNat, Int.reduceLE, Int.reduceEq, Int.reduceLT, Nat.reduceEqDiff, Nat.reduceAdd, zDk, pd_eql, pd_neq, pd_eql0, pd_neq0, zPt, mEnd, sAnswer, sAnswer.sRes]
                  exact ⟨_, Thin.refl _, by rw [soundV_o hKz hz hx (by rw [hbad, nz_stop hkz hC (by rw [hc]; decide), hc]; decide), hbad, nz_stop hkz hC (by rw [hc]; decide), hc], mo07.trans mo8⟩
                | false =>
                have hlt := of_decide_eq_false q4
                obtain ⟨z, hzz⟩ : ∃ z, a.2.2[y]? = some z := ⟨_, List.getElem?_eq_getElem (by omega)⟩
                obtain ⟨ga, roa, rfl, gga, cca⟩ := (ra.same mo8.get).cell hzz
                obtain ⟨gb, rob, rfl, ggb, ccb⟩ := (rx.same mo8.get).cell hbk
                have zy : (0 : Int) ≤ (y : Int) := by omega
                have hyl : (y : Int) < ((a.2.2.length : Nat) : Int) := by omega
                have hkl : (k : Int) < ((x.bl.length : Nat) : Int) := by omega
                have hcc : blkC x.bl a.2.2 (posB x.set) k = if beqB bk z = true then 0 else 11 := by
                  unfold blkC
                  rw [hy]
                  show (match a.2.2[y]? with | none => (11 : Int) | some z => if beqB (x.bl.getD k .empty) z = true then 0 else 11) = _
                  rw [hzz, List.getD_eq_getElem?_getD, hbk]; rfl
                refine CW_seq (CW_drawG hmix 16 (by kernel_rfl) (by kernel_rfl) ?_)
                simp only [zZ, reduceIte, Nat.reduceLT, Int.reduceToNat, Int.reduceLE, Int.reduceEq, Int.reduceLT, Nat.reduceEqDiff, Nat.reduceAdd, zDk, pd_eql, pd_neq, pd_eql0, pd_neq0, zPt, sPhGB, sHeadGB, sHOneG, sHOpG, isVal, sGuardedV, app_none, emp_nil, Nat.reduceSub, Nat.sub_zero, fa_Arc1, fa_O2, g58, g88, c7A, c12O, Tryz.underlying55, inf_MO, sz_MO, ld_MOs, ld_MO, st_MO, zk, q4, zy, hyl, hkl, and_self, Int.toNat_natCast, gga, cca, ggb, ccb]
                cases q5 : beqB bk z with
                | false =>
                  have hc : blkC x.bl a.2.2 (posB x.set) k = 11 := by rw [hcc, q5]; rfl
                  refine CW_cond true (by rfl) (fun _ => CW_seq (CW_region ?_)) (fun h => by cases h)
                  simp only [zZ, reduceIte, Nat.reduceLT, Int.reduceToNat, Int.reduceLE, Int.reduceEq, Int.reduceLT, Nat.reduceEqDiff, Nat.reduceAdd, zDk, pd_eql, pd_neq, pd_eql0, pd_neq0, zPt]
                  refine CW_ret ?_
                  simp only [zZ, reduceIte, Nat.reduceLT, Int.reduceToNat, Int.reduceLE, Int.reduceEq, Int.reduceLT, Nat.reduceEqDiff, Nat.reduceAdd, zDk, pd_eql, pd_neq, pd_eql0, pd_neq0, zPt, mEnd, sAnswer, sAnswer.sRes]
                  exact ⟨_, Thin.refl _, by rw [soundV_o hKz hz hx (by rw [hbad, nz_stop hkz hC (by rw [hc]; decide), hc]; decide), hbad, nz_stop hkz hC (by rw [hc]; decide), hc], mo07.trans mo8⟩
                | true =>
                  have hc : blkC x.bl a.2.2 (posB x.set) k = 0 := by rw [hcc, q5]; rfl
                  refine CW_cond false (by rfl) (fun h => by cases h) (fun _ => CW_skip ?_)
                  simp only [zZ, reduceIte, Nat.reduceLT, Int.reduceToNat, Int.reduceLE, Int.reduceEq, Int.reduceLT, Nat.reduceEqDiff, Nat.reduceAdd, zDk, pd_eql, pd_neq, pd_eql0, pd_neq0, zPt]
                  refine CW_region ?_
                  simp only [zZ, reduceIte, Nat.reduceLT, Int.reduceToNat, Int.reduceLE, Int.reduceEq, Int.reduceLT, Nat.reduceEqDiff, Nat.reduceAdd, zDk, pd_eql, pd_neq, pd_eql0, pd_neq0, zPt, wk]
                  refine ⟨[1, 8, 9, 37, 38, 39, 79, 80, 81], ?_⟩
                  simp only [zZ, reduceIte, Nat.reduceLT, Int.reduceToNat, Int.reduceLE, Int.reduceEq, Int.reduceLT, Nat.reduceEqDiff, Nat.reduceAdd, zDk, pd_eql, pd_neq, pd_eql0, pd_neq0, zPt, keepF]
                  exact ⟨_, Thin.refl _, (posB x.set).length - (k + 1), ⟨k + 1, rfl, rfl, by omega, nz_step hkz (hC.trans (congrArg some hc)), rfl⟩, by omega⟩
              · have hkS := of_decide_eq_false hq
                simp only [zZ, reduceIte, Nat.reduceLT, Int.reduceToNat, Int.reduceLE, Int.reduceEq, Int.reduceLT, Nat.reduceEqDiff, Nat.reduceAdd, zDk, pd_eql, pd_neq, pd_eql0, pd_neq0, zPt]
                refine CW_region ?_
                simp only [zZ, reduceIte, Nat.reduceLT, Int.reduceToNat, Int.reduceLE, Int.reduceEq, Int.reduceLT, Nat.reduceEqDiff, Nat.reduceAdd, zDk, pd_eql, pd_neq, pd_eql0, pd_neq0, zPt, w9]
                refine ⟨[1, 37, 38, 39], ?_⟩
                simp only [zZ, reduceIte, Nat.reduceLT, Int.reduceToNat, Int.reduceLE, Int.reduceEq, Int.reduceLT, Nat.reduceEqDiff, Nat.reduceAdd, zDk, pd_eql, pd_neq, pd_eql0, pd_neq0, zPt, keepF]
                exact ⟨_, Thin.refl _, O.length - (i + 1), ⟨i + 1, rfl, rfl, by omega, nz_step hz (by rw [List.getElem?_map, hx]; exact congrArg some (hbad.trans (nz_end hkz (by rw [List.length_map, List.length_range]; omega)))), ((mo2.trans mo4).trans mo47).trans mo8⟩, by omega⟩
        · have hiO := of_decide_eq_false hq
          simp only [zZ, reduceIte, Nat.reduceLT, Int.reduceToNat, Int.reduceLE, Int.reduceEq, Int.reduceLT, Nat.reduceEqDiff, Nat.reduceAdd, zDk, pd_eql, pd_neq, pd_eql0, pd_neq0, zPt]
          refine ⟨[], ?_⟩
          simp only [zZ, reduceIte, Nat.reduceLT, Int.reduceToNat, Int.reduceLE, Int.reduceEq, Int.reduceLT, Nat.reduceEqDiff, Nat.reduceAdd, zDk, pd_eql, pd_neq, pd_eql0, pd_neq0, zPt, keepF]
          exact ⟨_, Thin.refl _, nz_end hz (by rw [List.length_map]; omega), mo2⟩
    · rintro f M2 ⟨rfl, hOz, mo2⟩
      refine CW_seq (CW_region ?_)
      simp only [zZ, reduceIte, Nat.reduceLT, Int.reduceToNat, Int.reduceLE, Int.reduceEq, Int.reduceLT, Nat.reduceEqDiff, Nat.reduceAdd, zDk, pd_eql, pd_neq, pd_eql0, pd_neq0, zPt]
      refine CW_ret ?_
      simp only [zZ, reduceIte, Nat.reduceLT, Int.reduceToNat, Int.reduceLE, Int.reduceEq, Int.reduceLT, Nat.reduceEqDiff, Nat.reduceAdd, zDk, pd_eql, pd_neq, pd_eql0, pd_neq0, zPt, mEnd, sAnswer, sAnswer.sRes]
      exact ⟨_, Thin.refl _, by rw [soundV_end (i := O.length) hKz (by rw [List.take_of_length_le (by rw [List.length_map]; omega)]; exact hOz) (by omega)], mo1.trans mo2⟩
end Go.Proofs.YtfdijpacbhomjaaGreatDoor
--LONG
/-
  What a model may be: told by the reference.
-/
namespace Go.Proofs.YtfdijpacbhomjaaGreatDoor
open Go.RowKit Abs
theorem OwnL.rd {α : Type} {enc : α → List Value} {N k : Nat} {M : Mem} {V : Value} {L : List α} (h : OwnL enc N k M V L) (henc : ∀ a, (enc a).length = N) (hl : L.length ≤ maxLen) : Rd M N V L.length (L.flatMap enc) := by
  rcases h with ⟨rfl, rfl⟩ | ⟨h0, g, h1, rfl, h3⟩
  · exact ⟨none, 0, rfl, by simp, Nat.le_refl _, Nat.zero_le _, fun _ => rfl, fun p hp => by cases hp⟩
  · exact ⟨_, _, rfl, flat_length henc L, Nat.le_refl _, hl, (fun e => nomatch e), (fun p hp => by cases hp; exact ⟨g, rfl, fun _ => ⟨false, h3⟩⟩)⟩
abbrev RopX := OpX × Value
def RxR (M : Mem) (V : Value) (B : List RopX) : Prop := Rd M 10 V B.length (B.flatMap roC) ∧ ∀ x ∈ B, BlR M x.1.bv x.1.bl ∧ x.1.bl.length ≤ 140737488355327 ∧ x.1.set.length ≤ 256 ∧ Rd M 1 x.2 (posB x.1.set).length ((posB x.1.set).flatMap encI)
theorem RxR.len {M : Mem} {V : Value} {L : List RopX} (h : RxR M V L) : ∃ a c, V = .slice a L.length c := by
  obtain ⟨a, c, h1, _⟩ := h.1
  exact ⟨a, c, h1⟩
theorem RxR.at {M : Mem} {a : Option Addr} {c : Nat} {L : List RopX} (h : RxR M (.slice a L.length c) L) {i : Nat} {x : RopX} (hx : L[i]? = some x) :
    ∃ g ro, a = some ⟨g, 0, none⟩ ∧ M.get g = some (.cells ro 10 (L.flatMap roC)) := by
  have hi : i < L.length := by rcases Nat.lt_or_ge i L.length with h | h; exact h; rw [List.getElem?_eq_none h] at hx; cases hx
  obtain ⟨b, ro, h1, h2⟩ := Rd.at h.1 (by omega)
  exact ⟨b, ro, h1, h2⟩
theorem posB_len (l : List Bool) : (posB l).length ≤ l.length := posF_le l 0
theorem al_RO : nAlloc Tryz.prog 112 = some (.cells false (aStride Tryz.prog 112) (roC (⟨noHead, [], .slice none 0 0, []⟩, .slice none 0 0))) := by kernel_rfl
theorem bx_Rt (p q r : Option Addr) (n m k c d e : Nat) : nBox Tryz.prog 64 (.agg #[.slice p n c, .slice q m d, .slice r k e]) = some (.cells false (aStride Tryz.prog 64) [.slice p n c, .slice q m d, .slice r k e]) := by rfl
theorem fa_R0 (b o : Nat) : aFieldAddr Tryz.prog 64 (.pointer (some ⟨b, o, none⟩)) 0 = some (.pointer (some ⟨b, o, none⟩)) := by kernel_rfl
theorem fa_R1 (b o : Nat) : aFieldAddr Tryz.prog 64 (.pointer (some ⟨b, o, none⟩)) 1 = some (.pointer (some ⟨b, o + 1, none⟩)) := by kernel_rfl
theorem fa_R2 (b o : Nat) : aFieldAddr Tryz.prog 64 (.pointer (some ⟨b, o, none⟩)) 2 = some (.pointer (some ⟨b, o + 2, none⟩)) := by kernel_rfl
theorem fa_Q0 (b o : Nat) : aFieldAddr Tryz.prog 112 (.pointer (some ⟨b, o, none⟩)) 0 = some (.pointer (some ⟨b, o, none⟩)) := by kernel_rfl
theorem fa_Q1 (b o : Nat) : aFieldAddr Tryz.prog 112 (.pointer (some ⟨b, o, none⟩)) 1 = some (.pointer (some ⟨b, o + 7, none⟩)) := by kernel_rfl
theorem fa_Q2 (b o : Nat) : aFieldAddr Tryz.prog 112 (.pointer (some ⟨b, o, none⟩)) 2 = some (.pointer (some ⟨b, o + 8, none⟩)) := by kernel_rfl
theorem fa_Q3 (b o : Nat) : aFieldAddr Tryz.prog 112 (.pointer (some ⟨b, o, none⟩)) 3 = some (.pointer (some ⟨b, o + 9, none⟩)) := by kernel_rfl
theorem ld_ROs (get : Nat → Option Blk) (b o : Nat) : gLoad Tryz.prog get 56 (.pointer (some ⟨b, o, none⟩)) = cellIn o (get b) := ld_cell Tryz.underlying56 rfl get b o
theorem ld_RO (get : Nat → Option Blk) (b o : Nat) : gLoad Tryz.prog get 112 (.pointer (some ⟨b, o, none⟩)) = rowIn 10 o (get b) := ld_row Tryz.underlying112 (row_struct _) inf_RO rfl get b o
theorem st_RO (m : Mem) (b o : Nat) (v : Value) : aStore Tryz.prog m 112 (.pointer (some ⟨b, o, none⟩)) v = putIn 10 m b o v.cells.toList (m.get b) := st_any inf_RO rfl m b o v
set_option maxRecDepth 100000 in
set_option maxHeartbeats 16000000 in
theorem rsound_spec (P K : List ArcX) (B : List RopX) (hp : P.length ≤ 140737488355327) (hk : K.length ≤ 140737488355327) (ho : B.length ≤ 140737488355327) (M : Mem) (VP VK VO : Value) (hP : AxR M VP P) (hK : AxR M VK K) (hO : RxR M VO B) :
    Abs.Spec Tryz.prog 18 [.agg #[VP, VK, VO]] M fun u M' => u = .int .i64 (soundV P K (B.map Prod.fst)) ∧ More M M' := by
  obtain ⟨pP, cP, rfl⟩ := hP.len
  obtain ⟨pK, cK, rfl⟩ := hK.len
  obtain ⟨pO, cO, rfl⟩ := hO.len
  have halA : nAlloc Tryz.prog 93 = some (.cells false (aStride Tryz.prog 93) (archC noHead (.slice none 0 0)).toList) := al_Arc
  generalize aStride Tryz.prog 93 = sA at halA
  have row8 : ∀ (s : Nat) (h : Header) V, rowIn 8 0 (some (.cells false s (archC h V).toList)) = some (.agg (archC h V)) := fun _ _ _ => rfl
  have agg8 : ∀ h V, (Value.agg (archC h V)).cells.toList = (archC h V).toList := fun _ _ => rfl
  have put8 : ∀ (M0 : Mem) (b : Nat) (h h' : Header) (V : Value) (a : Option Addr) (n c : Nat), putIn 8 M0 b 0 (archC h' (.slice a n c)).toList (some (.cells false sA (archC h V).toList)) = some (M0.set b (some (.cells false sA (archC h' (.slice a n c)).toList))) := fun _ _ _ _ _ _ _ _ => rfl
  have halO := al_RO
  generalize aStride Tryz.prog 112 = sO at halO
  have hbx := bx_Rt pP pK pO P.length K.length B.length cP cK cO
  generalize aStride Tryz.prog 64 = sS at hbx
  have hOl : (B.map Prod.fst).length = B.length := List.length_map _
  obtain ⟨M1, hM1⟩ : ∃ X, X = M.push (.cells false sS [.slice pP P.length cP, .slice pK K.length cK, .slice pO B.length cO]) := ⟨_, rfl⟩
  obtain ⟨b1, hb1⟩ : ∃ b, b = M.size := ⟨_, rfl⟩
  have g1 : M1.get b1 = some (.cells false sS [.slice pP P.length cP, .slice pK K.length cK, .slice pO B.length cO]) := by rw [hM1, hb1, Mem.get_push_new]
  have mo1 : More M M1 := by rw [hM1]; exact More.push _ _
  refine Abs.Spec.walkM Tryz.func18 (by rfl) _ Tryz.results18 _ Tryz.ntmps18 (by simp) ?_
  intro _ _ _
  refine CW_seq (CW_region ?_)
  simp only [zZ, reduceIte, Nat.reduceLT, Int.reduceToNat, Int.reduceLE, Int.reduceEq, Int.reduceLT, Nat.reduceEqDiff, Nat.reduceAdd, zDk, pd_eql, pd_neq, pd_eql0, pd_neq0, zPt, hbx]
  rw [← hM1, ← hb1]
  refine MW_mid (fun f M' => f = [(1, .pointer (some ⟨b1, 0, none⟩))] ∧ firstNZ (K.map (badK P)) = 0 ∧ M' = M1) ?_ ?_
  · refine CW_seq (CW_region ?_)
    simp only [zZ, reduceIte, Nat.reduceLT, Int.reduceToNat, Int.reduceLE, Int.reduceEq, Int.reduceLT, Nat.reduceEqDiff, Nat.reduceAdd, zDk, pd_eql, pd_neq, pd_eql0, pd_neq0, zPt]
    refine CW_block (MW_loop (fun j f M' => ∃ i : Nat, j = K.length - i ∧ f = [(1, .pointer (some ⟨b1, 0, none⟩)), (3, .int .i64 (i : Nat))] ∧ i ≤ K.length ∧ firstNZ ((K.map (badK P)).take i) = 0 ∧ M' = M1) K.length ?_ ?_)
    · refine ⟨[1, 3], ?_⟩
      simp only [zZ, reduceIte, Nat.reduceLT, Int.reduceToNat, Int.reduceLE, Int.reduceEq, Int.reduceLT, Nat.reduceEqDiff, Nat.reduceAdd, zDk, pd_eql, pd_neq, pd_eql0, pd_neq0, zPt, keepF]
      exact ⟨M1, Thin.refl _, 0, rfl, rfl, by omega, rfl, rfl⟩
    · rintro j f M2 ⟨i, rfl, rfl, hi, hz, e2⟩
      replace e2 := e2.symm; subst e2
      refine CW_seq (CW_seq (CW_region ?_))
      simp only [zZ, reduceIte, Nat.reduceLT, Int.reduceToNat, Int.reduceLE, Int.reduceEq, Int.reduceLT, Nat.reduceEqDiff, Nat.reduceAdd, zDk, pd_eql, pd_neq, pd_eql0, pd_neq0, zPt, fa_R1, g1]
      refine CW_cond (decide ((i : Int) < (K.length : Int))) (by rfl) (fun hq => CW_skip ?_) (fun hq => CW_exit ?_)
      · have hiK := of_decide_eq_true hq
        obtain ⟨x, hx⟩ : ∃ x, K[i]? = some x := ⟨_, List.getElem?_eq_getElem (by omega)⟩
        obtain ⟨g, ro', rfl, hg⟩ := hK.at hx
        have hg2 := mo1.get _ _ hg
        obtain ⟨xa, xc, hxv⟩ := (hK.2 x (List.mem_of_getElem? hx)).1.len
        have rw8 : rowIn 8 (i * 8) (some (.cells ro' 8 (K.flatMap arcX))) = some (.agg (archC x.1 (.slice xa x.2.2.length xc))) := by rw [row_at arcX 8 arcX_len hx ro' 8, ← hxv]; rfl
        have c0 : cellIn (i * 8) (some (.cells ro' 8 (K.flatMap arcX))) = some (.int .i64 x.1.id) := cell_at arcX 8 arcX_len hx 0 (by decide) ro' 8
        have z0 : (0 : Int) ≤ (i : Int) := by omega
        have w9 : IntKind.i64.wrap ((i : Int) + 1) = ((i + 1 : Nat) : Int) := by rw [wri (by omega) (by omega)]; omega
        simp only [zZ, reduceIte, Nat.reduceLT, Int.reduceToNat, Int.reduceLE, Int.reduceEq, Int.reduceLT, Nat.reduceEqDiff, Nat.reduceAdd, zDk, pd_eql, pd_neq, pd_eql0, pd_neq0, zPt]
        refine CW_seq (CW_block (CW_seq (CW_drawG hmix 9 (by kernel_rfl) (by kernel_rfl) ?_)))
        simp only [zZ, reduceIte, Nat.reduceLT, Int.reduceToNat, Int.reduceLE, Int.reduceEq, Int.reduceLT, Nat.reduceEqDiff, Nat.reduceAdd, zDk, pd_eql, pd_neq, pd_eql0, pd_neq0, zPt, sPhGB, sHeadGB, sHOneG, sHOpG, isVal, sGuardedV, app_none, emp_nil, Nat.reduceSub, Nat.sub_zero, fa_R0, fa_R1, g1, z0, hiK, and_self, hg2, Int.toNat_natCast, c0]
        refine ⟨by kernel_rfl, _, rfind_spec P hp M1 _ (hP.same mo1.get) x.1.id, ?_⟩
        rintro _ M5 ⟨⟨r, hr, rfl⟩, e5⟩
        replace e5 := e5.symm; subst e5
        simp only [zZ, reduceIte, Nat.reduceLT, Int.reduceToNat, Int.reduceLE, Int.reduceEq, Int.reduceLT, Nat.reduceEqDiff, Nat.reduceAdd, zDk, pd_eql, pd_neq, pd_eql0, pd_neq0, zPt]
        cases r with
        | none =>
          have hbad : badK P x = 8 := by unfold badK; rw [findA_none hr]
          have q0 : decide ((placeO none : Int) < 0) = true := rfl
          refine CW_seq (CW_seq (CW_region ?_))
          simp only [zZ, reduceIte, Nat.reduceLT, Int.reduceToNat, Int.reduceLE, Int.reduceEq, Int.reduceLT, Nat.reduceEqDiff, Nat.reduceAdd, zDk, pd_eql, pd_neq, pd_eql0, pd_neq0, zPt, q0]
          refine CW_cond true (by rfl) (fun _ => CW_seq (CW_region ?_)) (fun h => by cases h)
          simp only [zZ, reduceIte, Nat.reduceLT, Int.reduceToNat, Int.reduceLE, Int.reduceEq, Int.reduceLT, Nat.reduceEqDiff, Nat.reduceAdd, zDk, pd_eql, pd_neq, pd_eql0, pd_neq0, zPt]
          refine CW_ret ?_
          simp only [zZ, reduceIte, Nat.reduceLT, Int.reduceToNat, Int.reduceLE, Int.reduceEq, Int.reduceLT, Nat.reduceEqDiff, Nat.reduceAdd, zDk, pd_eql, pd_neq, pd_eql0, pd_neq0, zPt, mEnd, sAnswer, sAnswer.sRes]
          exact ⟨_, Thin.refl _, by rw [soundV_k hz hx (by rw [hbad]; decide), hbad], mo1⟩
        | some i2 =>
          have q0 : decide ((i2 : Int) < 0) = false := decide_eq_false (by omega)
          obtain ⟨a, ha⟩ : ∃ a, P[i2]? = some a := by obtain ⟨a, ha, _⟩ := hr; exact ⟨a, ha⟩
          have hi2 := (List.getElem?_eq_some_iff.1 ha).1
          have z2 : (0 : Int) ≤ (i2 : Int) := by omega
          have hi2' : (i2 : Int) < ((P.length : Nat) : Int) := by omega
          obtain ⟨gp, rop, rfl, hgp⟩ := hP.at ha
          have hgp2 := mo1.get _ _ hgp
          have hab := hP.2 a (List.mem_of_getElem? ha)
          obtain ⟨aa, ac, hav⟩ := hab.1.len
          have rwp : rowIn 8 (i2 * 8) (some (.cells rop 8 (P.flatMap arcX))) = some (.agg (archC a.1 (.slice aa a.2.2.length ac))) := by rw [row_at arcX 8 arcX_len ha rop 8, ← hav]; rfl
          refine CW_seq (CW_seq (CW_region ?_))
          simp only [zZ, reduceIte, Nat.reduceLT, Int.reduceToNat, Int.reduceLE, Int.reduceEq, Int.reduceLT, Nat.reduceEqDiff, Nat.reduceAdd, zDk, pd_eql, pd_neq, pd_eql0, pd_neq0, zPt, placeO, q0]
          refine CW_cond false (by rfl) (fun h => by cases h) (fun _ => CW_skip ?_)
          simp only [zZ, reduceIte, Nat.reduceLT, Int.reduceToNat, Int.reduceLE, Int.reduceEq, Int.reduceLT, Nat.reduceEqDiff, Nat.reduceAdd, zDk, pd_eql, pd_neq, pd_eql0, pd_neq0, zPt]
          have rx := (hK.2 x (List.mem_of_getElem? hx)).1.same mo1.get
          have ra := hab.1.same mo1.get
          rw [hxv] at rx
          rw [hav] at ra
          refine CW_seq (CW_drawG hmix 10 (by kernel_rfl) (by kernel_rfl) ?_)
          simp only [zZ, reduceIte, Nat.reduceLT, Int.reduceToNat, Int.reduceLE, Int.reduceEq, Int.reduceLT, Nat.reduceEqDiff, Nat.reduceAdd, zDk, pd_eql, pd_neq, pd_eql0, pd_neq0, zPt, sPhGB, sHeadGB, sHOneG, sHOpG, isVal, sGuardedV, app_none, emp_nil, Nat.reduceSub, Nat.sub_zero, fa_R0, fa_R1, g1, z0, hiK, z2, hi2', and_self, hg2, hgp2, Int.toNat_natCast, rw8, rwp]
          refine ⟨by kernel_rfl, _, rsame_at M1 a.1 x.1 _ _ a.2.2 x.2.2 ra rx hab.2, ?_⟩
          rintro _ M8 ⟨rfl, e8⟩
          replace e8 := e8.symm; subst e8
          cases hs : sameArch a.1 x.1 a.2.2 x.2.2 with
          | false =>
            have hbad : badK P x = 11 := by unfold badK; rw [findA_some hr ha]; simp [hs]
            simp only [zZ, reduceIte, Nat.reduceLT, Int.reduceToNat, Int.reduceLE, Int.reduceEq, Int.reduceLT, Nat.reduceEqDiff, Nat.reduceAdd, zDk, pd_eql, pd_neq, pd_eql0, pd_neq0, zPt]
            refine CW_cond true (by rfl) (fun _ => CW_seq (CW_region ?_)) (fun h => by cases h)
            simp only [zZ, reduceIte, Nat.reduceLT, Int.reduceToNat, Int.reduceLE, Int.reduceEq, Int.reduceLT, Nat.reduceEqDiff, Nat.reduceAdd, zDk, pd_eql, pd_neq, pd_eql0, pd_neq0, zPt]
            refine CW_ret ?_
            simp only [zZ, reduceIte, Nat.reduceLT, Int.reduceToNat, Int.reduceLE, Int.reduceEq, Int.reduceLT, Nat.reduceEqDiff, Nat.reduceAdd, zDk, pd_eql, pd_neq, pd_eql0, pd_neq0, zPt, mEnd, sAnswer, sAnswer.sRes]
            exact ⟨_, Thin.refl _, by rw [soundV_k hz hx (by rw [hbad]; decide), hbad], mo1⟩
          | true =>
            have hbad : badK P x = 0 := by unfold badK; rw [findA_some hr ha]; simp [hs]
            simp only [zZ, reduceIte, Nat.reduceLT, Int.reduceToNat, Int.reduceLE, Int.reduceEq, Int.reduceLT, Nat.reduceEqDiff, Nat.reduceAdd, zDk, pd_eql, pd_neq, pd_eql0, pd_neq0, zPt]
            refine CW_cond false (by rfl) (fun h => by cases h) (fun _ => CW_skip ?_)
            simp only [zZ, reduceIte, Nat.reduceLT, Int.reduceToNat, Int.reduceLE, Int.reduceEq, Int.reduceLT, Nat.reduceEqDiff, Nat.reduceAdd, zDk, pd_eql, pd_neq, pd_eql0, pd_neq0, zPt]
            refine CW_region ?_
            simp only [zZ, reduceIte, Nat.reduceLT, Int.reduceToNat, Int.reduceLE, Int.reduceEq, Int.reduceLT, Nat.reduceEqDiff, Nat.reduceAdd, zDk, pd_eql, pd_neq, pd_eql0, pd_neq0, zPt, w9]
            refine ⟨[1, 3], ?_⟩
            simp only [zZ, reduceIte, Nat.reduceLT, Int.reduceToNat, Int.reduceLE, Int.reduceEq, Int.reduceLT, Nat.reduceEqDiff, Nat.reduceAdd, zDk, pd_eql, pd_neq, pd_eql0, pd_neq0, zPt, keepF]
            exact ⟨_, Thin.refl _, K.length - (i + 1), ⟨i + 1, rfl, rfl, by omega, nz_step hz (by rw [List.getElem?_map, hx]; exact congrArg some hbad), rfl⟩, by omega⟩
      · have hiK := of_decide_eq_false hq
        simp only [zZ, reduceIte, Nat.reduceLT, Int.reduceToNat, Int.reduceLE, Int.reduceEq, Int.reduceLT, Nat.reduceEqDiff, Nat.reduceAdd, zDk, pd_eql, pd_neq, pd_eql0, pd_neq0, zPt]
        refine ⟨[1], ?_⟩
        simp only [zZ, reduceIte, Nat.reduceLT, Int.reduceToNat, Int.reduceLE, Int.reduceEq, Int.reduceLT, Nat.reduceEqDiff, Nat.reduceAdd, zDk, pd_eql, pd_neq, pd_eql0, pd_neq0, zPt, keepF]
        exact ⟨_, Thin.refl _, nz_end hz (by rw [List.length_map]; omega), rfl⟩
  · rintro f Ma ⟨rfl, hKz, ea⟩
    replace ea := ea.symm; subst ea
    have row10 : ∀ (s : Nat) (o : RopX), rowIn 10 0 (some (.cells false s (roC o))) = some (.agg (roC o).toArray) := fun _ _ => rfl
    have agg10 : ∀ o, (Value.agg (roC o).toArray).cells.toList = roC o := fun _ => rfl
    have put10 : ∀ (M0 : Mem) (b : Nat) (o : RopX) (h : Header) (S : List Bool) (a : Option Addr) (n c : Nat) (bl : List ByteArray) (a' : Option Addr) (n' c' : Nat), putIn 10 M0 b 0 (roC (⟨h, S, .slice a n c, bl⟩, .slice a' n' c')) (some (.cells false sO (roC o))) = some (M0.set b (some (.cells false sO (roC (⟨h, S, .slice a n c, bl⟩, .slice a' n' c'))))) := fun _ _ _ _ _ _ _ _ _ _ _ _ => rfl
    have row7A : ∀ (s : Nat) (h : Header) V, rowIn 7 0 (some (.cells false s (archC h V).toList)) = some (.agg h.cells.toArray) := fun _ _ _ => rfl
    have row7O : ∀ (s : Nat) (o : RopX), rowIn 7 0 (some (.cells false s (roC o))) = some (.agg o.1.head.cells.toArray) := fun _ _ => rfl
    have c2A : ∀ (s : Nat) (h : Header) V, cellIn 2 (some (.cells false s (archC h V).toList)) = some (.int .i64 h.n) := fun _ _ _ => rfl
    have c7A : ∀ (s : Nat) (h : Header) V, cellIn 7 (some (.cells false s (archC h V).toList)) = some V := fun _ _ _ => rfl
    have c0O : ∀ (s : Nat) (o : RopX), cellIn 0 (some (.cells false s (roC o))) = some (.int .i64 o.1.head.id) := fun _ _ => rfl
    have c7O : ∀ (s : Nat) (o : RopX), cellIn 7 (some (.cells false s (roC o))) = some (.int .i64 (o.1.set.length : Nat)) := fun _ _ => rfl
    have c8O : ∀ (s : Nat) (o : RopX), cellIn 8 (some (.cells false s (roC o))) = some o.2 := fun _ _ => rfl
    have c9O : ∀ (s : Nat) (o : RopX), cellIn 9 (some (.cells false s (roC o))) = some o.1.bv := fun _ _ => rfl
    refine MW_mid (fun f M' => f = [] ∧ firstNZ ((B.map Prod.fst).map (badO P)) = 0 ∧ More M1 M') ?_ ?_
    · refine CW_seq (CW_region ?_)
      simp only [zZ, reduceIte, Nat.reduceLT, Int.reduceToNat, Int.reduceLE, Int.reduceEq, Int.reduceLT, Nat.reduceEqDiff, Nat.reduceAdd, zDk, pd_eql, pd_neq, pd_eql0, pd_neq0, zPt]
      refine CW_block (MW_loop (fun j f M' => ∃ i : Nat, j = B.length - i ∧ f = [(1, .pointer (some ⟨b1, 0, none⟩)), (5, .int .i64 (i : Nat))] ∧ i ≤ B.length ∧ firstNZ (((B.map Prod.fst).map (badO P)).take i) = 0 ∧ More M1 M') B.length ?_ ?_)
      · refine ⟨[1, 5], ?_⟩
        simp only [zZ, reduceIte, Nat.reduceLT, Int.reduceToNat, Int.reduceLE, Int.reduceEq, Int.reduceLT, Nat.reduceEqDiff, Nat.reduceAdd, zDk, pd_eql, pd_neq, pd_eql0, pd_neq0, zPt, keepF]
        exact ⟨M1, Thin.refl _, 0, rfl, rfl, by omega, rfl, More.refl _⟩
      · rintro j f M2 ⟨i, rfl, rfl, hi, hz, mo2⟩
        have g12 := mo2.get _ _ g1
        refine CW_seq (CW_seq (CW_region ?_))
        simp only [zZ, reduceIte, Nat.reduceLT, Int.reduceToNat, Int.reduceLE, Int.reduceEq, Int.reduceLT, Nat.reduceEqDiff, Nat.reduceAdd, zDk, pd_eql, pd_neq, pd_eql0, pd_neq0, zPt, fa_R2, g12, Tryz.underlying56, inf_RO, sz_RO, ld_ROs, ld_RO, st_RO]
        refine CW_cond (decide ((i : Int) < (B.length : Int))) (by rfl) (fun hq => CW_skip ?_) (fun hq => CW_exit ?_)
        · have hiO := of_decide_eq_true hq
          obtain ⟨y, hy⟩ : ∃ y, B[i]? = some y := ⟨_, List.getElem?_eq_getElem (by omega)⟩
          obtain ⟨x, VL⟩ := y
          have hx : (B.map Prod.fst)[i]? = some x := by rw [List.getElem?_map, hy]; rfl
          obtain ⟨g, ro', rfl, hg⟩ := hO.at hy
          have mo02 := mo1.trans mo2
          have hg2 := mo02.get _ _ hg
          obtain ⟨hxb, hxl, hxs, hxn⟩ := hO.2 _ (List.mem_of_getElem? hy)
          have hxs : x.set.length ≤ 256 := hxs
          have hxl : x.bl.length ≤ 140737488355327 := hxl
          obtain ⟨xa, xc, hxv⟩ := hxb.len
          obtain ⟨wa, wc, hwv, _⟩ := id hxn
          have hwv : VL = .slice wa (posB x.set).length wc := hwv
          have hxv : x.bv = .slice xa x.bl.length xc := hxv
          have rw10 : rowIn 10 (i * 10) (some (.cells ro' 10 (B.flatMap roC))) = some (.agg (roC (⟨x.head, x.set, .slice xa x.bl.length xc, x.bl⟩, .slice wa (posB x.set).length wc)).toArray) := by rw [row_at roC 10 roC_len hy ro' 10, ← hxv, ← hwv]
          have z0 : (0 : Int) ≤ (i : Int) := by omega
          have w9 : IntKind.i64.wrap ((i : Int) + 1) = ((i + 1 : Nat) : Int) := by rw [wri (by omega) (by omega)]; omega
          obtain ⟨b6, hb6⟩ : ∃ b, b = M2.size := ⟨_, rfl⟩
          obtain ⟨M3, hM3⟩ : ∃ X, X = M2.push (.cells false sO (roC (⟨noHead, [], .slice none 0 0, []⟩, .slice none 0 0))) := ⟨_, rfl⟩
          have g63 : M3.get b6 = some (.cells false sO (roC (⟨noHead, [], .slice none 0 0, []⟩, .slice none 0 0))) := by rw [hM3, hb6, Mem.get_push_new]
          obtain ⟨M4, hM4⟩ : ∃ X, X = M3.set b6 (some (.cells false sO (roC (⟨x.head, x.set, .slice xa x.bl.length xc, x.bl⟩, .slice wa (posB x.set).length wc)))) := ⟨_, rfl⟩
          have g64 : M4.get b6 = some (.cells false sO (roC (⟨x.head, x.set, .slice xa x.bl.length xc, x.bl⟩, .slice wa (posB x.set).length wc))) := by rw [hM4]; exact Mem.get_set_same g63 _
          have mo4 : More M2 M4 := by
            rw [hM4, hM3]
            exact More.setAt (More.push M2 _) (by omega) _
          have g14 := mo4.get _ _ g12
          have mo04 := mo02.trans mo4
          simp only [zZ, reduceIte, Nat.reduceLT, Int.reduceToNat, Int.reduceLE, Int.reduceEq, Int.reduceLT, Nat.reduceEqDiff, Nat.reduceAdd, zDk, pd_eql, pd_neq, pd_eql0, pd_neq0, zPt]
          refine CW_seq (CW_block (CW_seq (CW_region ?_)))
          simp only [zZ, reduceIte, Nat.reduceLT, Int.reduceToNat, Int.reduceLE, Int.reduceEq, Int.reduceLT, Nat.reduceEqDiff, Nat.reduceAdd, zDk, pd_eql, pd_neq, pd_eql0, pd_neq0, zPt, fa_R2, g12, Tryz.underlying56, inf_RO, sz_RO, ld_ROs, ld_RO, st_RO, z0, hiO, and_self, hg2, Int.toNat_natCast, rw10, halO, agg10]
          rw [← hM3, ← hb6]
          simp only [zZ, reduceIte, Nat.reduceLT, Int.reduceToNat, Int.reduceLE, Int.reduceEq, Int.reduceLT, Nat.reduceEqDiff, Nat.reduceAdd, zDk, pd_eql, pd_neq, pd_eql0, pd_neq0, zPt, g63, put10]
          rw [← hM4]
          refine CW_seq (CW_region ?_)
          simp only [zZ, reduceIte, Nat.reduceLT, Int.reduceToNat, Int.reduceLE, Int.reduceEq, Int.reduceLT, Nat.reduceEqDiff, Nat.reduceAdd, zDk, pd_eql, pd_neq, pd_eql0, pd_neq0, zPt, fa_R0, g14, fa_Q0, g64, c0O]
          refine ⟨by kernel_rfl, _, rfind_spec P hp M4 _ (hP.same mo04.get) x.head.id, ?_⟩
          rintro _ M5 ⟨⟨r, hr, rfl⟩, e5⟩
          replace e5 := e5.symm; subst e5
          simp only [zZ, reduceIte, Nat.reduceLT, Int.reduceToNat, Int.reduceLE, Int.reduceEq, Int.reduceLT, Nat.reduceEqDiff, Nat.reduceAdd, zDk, pd_eql, pd_neq, pd_eql0, pd_neq0, zPt]
          cases r with
          | none =>
            have hbad : badO P x = 8 := by unfold badO; rw [findA_none hr]
            have q0 : decide ((placeO none : Int) < 0) = true := rfl
            refine CW_seq (CW_seq (CW_region ?_))
            simp only [zZ, reduceIte, Nat.reduceLT, Int.reduceToNat, Int.reduceLE, Int.reduceEq, Int.reduceLT, Nat.reduceEqDiff, Nat.reduceAdd, zDk, pd_eql, pd_neq, pd_eql0, pd_neq0, zPt, q0]
            refine CW_cond true (by rfl) (fun _ => CW_seq (CW_region ?_)) (fun h => by cases h)
            simp only [zZ, reduceIte, Nat.reduceLT, Int.reduceToNat, Int.reduceLE, Int.reduceEq, Int.reduceLT, Nat.reduceEqDiff, Nat.reduceAdd, zDk, pd_eql, pd_neq, pd_eql0, pd_neq0, zPt]
            refine CW_ret ?_
            simp only [zZ, reduceIte, Nat.reduceLT, Int.reduceToNat, Int.reduceLE, Int.reduceEq, Int.reduceLT, Nat.reduceEqDiff, Nat.reduceAdd, zDk, pd_eql, pd_neq, pd_eql0, pd_neq0, zPt, mEnd, sAnswer, sAnswer.sRes]
            exact ⟨_, Thin.refl _, by rw [soundV_o hKz hz hx (by rw [hbad]; decide), hbad], mo04⟩
          | some i2 =>
            have q0 : decide ((i2 : Int) < 0) = false := decide_eq_false (by omega)
            obtain ⟨a, ha⟩ : ∃ a, P[i2]? = some a := by obtain ⟨a, ha, _⟩ := hr; exact ⟨a, ha⟩
            have hi2 := (List.getElem?_eq_some_iff.1 ha).1
            have z2 : (0 : Int) ≤ (i2 : Int) := by omega
            have hi2' : (i2 : Int) < ((P.length : Nat) : Int) := by omega
            obtain ⟨gp, rop, rfl, hgp⟩ := hP.at ha
            have hgp2 := mo04.get _ _ hgp
            have hab := hP.2 a (List.mem_of_getElem? ha)
            obtain ⟨aa, ac, hav⟩ := hab.1.len
            have rwp : rowIn 8 (i2 * 8) (some (.cells rop 8 (P.flatMap arcX))) = some (.agg (archC a.1 (.slice aa a.2.2.length ac))) := by rw [row_at arcX 8 arcX_len ha rop 8, ← hav]; rfl
            refine CW_seq (CW_seq (CW_region ?_))
            simp only [zZ, reduceIte, Nat.reduceLT, Int.reduceToNat, Int.reduceLE, Int.reduceEq, Int.reduceLT, Nat.reduceEqDiff, Nat.reduceAdd, zDk, pd_eql, pd_neq, pd_eql0, pd_neq0, zPt, placeO, q0]
            refine CW_cond false (by rfl) (fun h => by cases h) (fun _ => CW_skip ?_)
            simp only [zZ, reduceIte, Nat.reduceLT, Int.reduceToNat, Int.reduceLE, Int.reduceEq, Int.reduceLT, Nat.reduceEqDiff, Nat.reduceAdd, zDk, pd_eql, pd_neq, pd_eql0, pd_neq0, zPt]
            obtain ⟨b8, hb8⟩ : ∃ b, b = M4.size := ⟨_, rfl⟩
            obtain ⟨M6, hM6⟩ : ∃ X, X = M4.push (.cells false sA (archC noHead (.slice none 0 0)).toList) := ⟨_, rfl⟩
            have g86 : M6.get b8 = some (.cells false sA (archC noHead (.slice none 0 0)).toList) := by rw [hM6, hb8, Mem.get_push_new]
            obtain ⟨M7, hM7⟩ : ∃ X, X = M6.set b8 (some (.cells false sA (archC a.1 (.slice aa a.2.2.length ac)).toList)) := ⟨_, rfl⟩
            have g87 : M7.get b8 = some (.cells false sA (archC a.1 (.slice aa a.2.2.length ac)).toList) := by rw [hM7]; exact Mem.get_set_same g86 _
            have mo47 : More M4 M7 := by
              rw [hM7, hM6]
              exact More.setAt (More.push M4 _) (by omega) _
            have mo07 := mo04.trans mo47
            have g67 := mo47.get _ _ g64
            have rx : BlR M7 x.bv x.bl := hxb.same mo07.get
            have ra := hab.1.same mo07.get
            rw [hxv] at rx
            rw [hav] at ra
            have rn : Rd M7 1 VL (posB x.set).length ((posB x.set).flatMap encI) := rd_mono hxn mo07.get
            rw [hwv] at rn
            refine CW_seq (CW_region ?_)
            simp only [zZ, reduceIte, Nat.reduceLT, Int.reduceToNat, Int.reduceLE, Int.reduceEq, Int.reduceLT, Nat.reduceEqDiff, Nat.reduceAdd, zDk, pd_eql, pd_neq, pd_eql0, pd_neq0, zPt, fa_R0, g14, z2, hi2', and_self, hgp2, Int.toNat_natCast, rwp, halA, agg8]
            rw [← hM6, ← hb8]
            simp only [zZ, reduceIte, Nat.reduceLT, Int.reduceToNat, Int.reduceLE, Int.reduceEq, Int.reduceLT, Nat.reduceEqDiff, Nat.reduceAdd, zDk, pd_eql, pd_neq, pd_eql0, pd_neq0, zPt, g86, put8]
            rw [← hM7]
            refine CW_seq (CW_seq (CW_region ?_))
            cases q1 : sameH a.1 x.head with
            | false =>
              have hbad : badO P x = 11 := by unfold badO; rw [findA_some hr ha]; simp [q1]
              simp only [zZ, reduceIte, Nat.reduceLT, Int.reduceToNat, Int.reduceLE, Int.reduceEq, Int.reduceLT, Nat.reduceEqDiff, Nat.reduceAdd, zDk, pd_eql, pd_neq, pd_eql0, pd_neq0, zPt, fa_Q0, fa_Q1, fa_Q2, fa_Q3, g87, g67, row7A, row7O, c2A, c7A, c7O, c8O, c9O, hdr_neq, q1]
              refine CW_cond true (by rfl) (fun _ => CW_seq (CW_region ?_)) (fun h => by cases h)
              simp only [zZ, reduceIte, Nat.reduceLT, Int.reduceToNat, Int.reduceLE, Int.reduceEq, Int.reduceLT, Nat.reduceEqDiff, Nat.reduceAdd, zDk, pd_eql, pd_neq, pd_eql0, pd_neq0, zPt]
              refine CW_ret ?_
              simp only [zZ, reduceIte, Nat.reduceLT, Int.reduceToNat, Int.reduceLE, Int.reduceEq, Int.reduceLT, Nat.reduceEqDiff, Nat.reduceAdd, zDk, pd_eql, pd_neq, pd_eql0, pd_neq0, zPt, mEnd, sAnswer, sAnswer.sRes]
              exact ⟨_, Thin.refl _, by rw [soundV_o hKz hz hx (by rw [hbad]; decide), hbad], mo07⟩
            | true =>
            cases q2 : (((x.set.length : Nat) : Int) != a.1.n) with
            | true =>
              have hbad : badO P x = 11 := by
                have h1 : ¬ (((x.set.length : Nat) : Int) = a.1.n) := by simpa using q2
                unfold badO; rw [findA_some hr ha]; simp [q1, h1]
              simp only [zZ, reduceIte, Nat.reduceLT, Int.reduceToNat, Int.reduceLE, Int.reduceEq, Int.reduceLT, Nat.reduceEqDiff, Nat.reduceAdd, zDk, pd_eql, pd_neq, pd_eql0, pd_neq0, zPt, fa_Q0, fa_Q1, fa_Q2, fa_Q3, g87, g67, row7A, row7O, c2A, c7A, c7O, c8O, c9O, hdr_neq, q1, q2]
              refine CW_cond true (by rfl) (fun _ => CW_seq (CW_region ?_)) (fun h => by cases h)
              simp only [zZ, reduceIte, Nat.reduceLT, Int.reduceToNat, Int.reduceLE, Int.reduceEq, Int.reduceLT, Nat.reduceEqDiff, Nat.reduceAdd, zDk, pd_eql, pd_neq, pd_eql0, pd_neq0, zPt]
              refine CW_ret ?_
              simp only [zZ, reduceIte, Nat.reduceLT, Int.reduceToNat, Int.reduceLE, Int.reduceEq, Int.reduceLT, Nat.reduceEqDiff, Nat.reduceAdd, zDk, pd_eql, pd_neq, pd_eql0, pd_neq0, zPt, mEnd, sAnswer, sAnswer.sRes]
              exact ⟨_, Thin.refl _, by rw [soundV_o hKz hz hx (by rw [hbad]; decide), hbad], mo07⟩
            | false =>
            have e2 : ((x.set.length : Nat) : Int) = a.1.n := by simpa using q2
            cases q3 : (((x.bl.length : Nat) : Int) != (((posB x.set).length : Nat) : Int)) with
            | true =>
              have hbad : badO P x = 11 := by
                have h1 : ¬ (x.bl.length = countT x.set) := fun e => by rw [e, ← posB_count] at q3; simp at q3
                unfold badO; rw [findA_some hr ha]; simp [q1, e2, h1]
              simp only [zZ, reduceIte, Nat.reduceLT, Int.reduceToNat, Int.reduceLE, Int.reduceEq, Int.reduceLT, Nat.reduceEqDiff, Nat.reduceAdd, zDk, pd_eql, pd_neq, pd_eql0, pd_neq0, zPt, fa_Q0, fa_Q1, fa_Q2, fa_Q3, g87, g67, row7A, row7O, c2A, c7A, c7O, c8O, c9O, hdr_neq, q1, q2, q3]
              refine CW_cond true (by rfl) (fun _ => CW_seq (CW_region ?_)) (fun h => by cases h)
              simp only [zZ, reduceIte, Nat.reduceLT, Int.reduceToNat, Int.reduceLE, Int.reduceEq, Int.reduceLT, Nat.reduceEqDiff, Nat.reduceAdd, zDk, pd_eql, pd_neq, pd_eql0, pd_neq0, zPt]
              refine CW_ret ?_
              simp only [zZ, reduceIte, Nat.reduceLT, Int.reduceToNat, Int.reduceLE, Int.reduceEq, Int.reduceLT, Nat.reduceEqDiff, Nat.reduceAdd, zDk, pd_eql, pd_neq, pd_eql0, pd_neq0, zPt, mEnd, sAnswer, sAnswer.sRes]
              exact ⟨_, Thin.refl _, by rw [soundV_o hKz hz hx (by rw [hbad]; decide), hbad], mo07⟩
            | false =>
            have hS : (posB x.set).length = x.bl.length := by
              have : ((x.bl.length : Nat) : Int) = (((posB x.set).length : Nat) : Int) := by simpa using q3
              omega
            have e3 : x.bl.length = countT x.set := by rw [← hS, posB_count]
            have hbad : badO P x = firstNZ ((List.range (posB x.set).length).map (blkC x.bl a.2.2 (posB x.set))) := by
              unfold badO; rw [findA_some hr ha]; simp [q1, e2, e3]
            simp only [zZ, reduceIte, Nat.reduceLT, Int.reduceToNat, Int.reduceLE, Int.reduceEq, Int.reduceLT, Nat.reduceEqDiff, Nat.reduceAdd, zDk, pd_eql, pd_neq, pd_eql0, pd_neq0, zPt, fa_Q0, fa_Q1, fa_Q2, fa_Q3, g87, g67, row7A, row7O, c2A, c7A, c7O, c8O, c9O, hdr_neq, q1, q2, q3]
            refine CW_cond false (by rfl) (fun h => by cases h) (fun _ => CW_skip ?_)
            simp only [zZ, reduceIte, Nat.reduceLT, Int.reduceToNat, Int.reduceLE, Int.reduceEq, Int.reduceLT, Nat.reduceEqDiff, Nat.reduceAdd, zDk, pd_eql, pd_neq, pd_eql0, pd_neq0, zPt]
            have hpl := posB_len x.set
            refine CW_seq (CW_region ?_)
            simp only [zZ, reduceIte, Nat.reduceLT, Int.reduceToNat, Int.reduceLE, Int.reduceEq, Int.reduceLT, Nat.reduceEqDiff, Nat.reduceAdd, zDk, pd_eql, pd_neq, pd_eql0, pd_neq0, zPt]
            refine CW_block (MW_loop (fun j f M' => ∃ k : Nat, j = (posB x.set).length - k ∧ f = [(1, .pointer (some ⟨b1, 0, none⟩)), (5, .int .i64 (i : Nat)), (6, .pointer (some ⟨b6, 0, none⟩)), (8, .pointer (some ⟨b8, 0, none⟩)), (9, .int .i64 (k : Nat))] ∧ k ≤ (posB x.set).length ∧ firstNZ (((List.range (posB x.set).length).map (blkC x.bl a.2.2 (posB x.set))).take k) = 0 ∧ M' = M7) (posB x.set).length ?_ ?_)
            · refine ⟨[1, 5, 6, 8, 9], ?_⟩
              simp only [zZ, reduceIte, Nat.reduceLT, Int.reduceToNat, Int.reduceLE, Int.reduceEq, Int.reduceLT, Nat.reduceEqDiff, Nat.reduceAdd, zDk, pd_eql, pd_neq, pd_eql0, pd_neq0, zPt, keepF]
              exact ⟨M7, Thin.refl _, 0, rfl, rfl, by omega, rfl, rfl⟩
            · rintro j f M9 ⟨k, rfl, rfl, hk9, hkz, e9⟩
              replace e9 := e9.symm; subst e9
              refine CW_seq (CW_seq (CW_region ?_))
              simp only [zZ, reduceIte, Nat.reduceLT, Int.reduceToNat, Int.reduceLE, Int.reduceEq, Int.reduceLT, Nat.reduceEqDiff, Nat.reduceAdd, zDk, pd_eql, pd_neq, pd_eql0, pd_neq0, zPt, fa_Q2, g67, c8O]
              refine CW_cond (decide ((k : Int) < (((posB x.set).length : Nat) : Int))) (by rfl) (fun hq => CW_skip ?_) (fun hq => CW_exit ?_)
              · have hkS := of_decide_eq_true hq
                obtain ⟨y, hy⟩ : ∃ y, (posB x.set)[k]? = some y := ⟨_, List.getElem?_eq_getElem (by omega)⟩
                obtain ⟨gw, row, rfl, hgw⟩ := Rd.at rn (by omega)
                have cw : cellIn k (some (.cells row 1 ((posB x.set).flatMap encI))) = some (.int .i64 (y : Nat)) := cell_one (f := fun n : Nat => Value.int .i64 (n : Int)) hy row 1
                have zk : (0 : Int) ≤ (k : Int) := by omega
                have wk : IntKind.i64.wrap ((k : Int) + 1) = ((k + 1 : Nat) : Int) := by rw [wri (by omega) (by omega)]; omega
                obtain ⟨bk, hbk⟩ : ∃ z, x.bl[k]? = some z := ⟨_, List.getElem?_eq_getElem (by omega)⟩
                have hC : ((List.range (posB x.set).length).map (blkC x.bl a.2.2 (posB x.set)))[k]? = some (blkC x.bl a.2.2 (posB x.set) k) := by
                  rw [List.getElem?_map, List.getElem?_range (by omega)]; rfl
                simp only [zZ, reduceIte, Nat.reduceLT, Int.reduceToNat, Int.reduceLE, Int.reduceEq, Int.reduceLT, Nat.reduceEqDiff, Nat.reduceAdd, zDk, pd_eql, pd_neq, pd_eql0, pd_neq0, zPt]
                cases q4 : decide ((y : Int) ≥ ((a.2.2.length : Nat) : Int)) with
                | true =>
                  have hge := of_decide_eq_true q4
                  have hc : blkC x.bl a.2.2 (posB x.set) k = 11 := by
                    unfold blkC
                    rw [hy]
                    show (match a.2.2[y]? with | none => (11 : Int) | some z => if beqB (x.bl.getD k .empty) z = true then 0 else 11) = 11
                    rw [List.getElem?_eq_none (by omega)]
                  refine CW_seq (CW_block (CW_seq (CW_drawG hmix 24 (by kernel_rfl) (by kernel_rfl) ?_)))
                  simp only [zZ, reduceIte, Nat.reduceLT, Int.reduceToNat, Int.reduceLE, Int.reduceEq, Int.reduceLT, Nat.reduceEqDiff, Nat.reduceAdd, zDk, pd_eql, pd_neq, pd_eql0, pd_neq0, zPt, sPhGB, sHeadGB, sHOneG, sHOpG, isVal, sGuardedV, app_none, emp_nil, Nat.reduceSub, Nat.sub_zero, fa_Arc1, fa_Q2, fa_Q3, g87, g67, c7A, c8O, c9O, zk, hkS, and_self, Int.toNat_natCast, hgw, cw, q4]
                  refine CW_cond true (by rfl) (fun _ => CW_seq (CW_region ?_)) (fun h => by cases h)
                  simp only [zZ, reduceIte, Nat.reduceLT, Int.reduceToNat, Int.reduceLE, Int.reduceEq, Int.reduceLT, Nat.reduceEqDiff, Nat.reduceAdd, zDk, pd_eql, pd_neq, pd_eql0, pd_neq0, zPt]
                  refine CW_ret ?_
                  simp only [zZ, reduceIte, Nat.reduceLT, Int.reduceToNat, Int.reduceLE, Int.reduceEq, Int.reduceLT, Nat.reduceEqDiff, Nat.reduceAdd, zDk, pd_eql, pd_neq, pd_eql0, pd_neq0, zPt, mEnd, sAnswer, sAnswer.sRes]
                  exact ⟨_, Thin.refl _, by rw [soundV_o hKz hz hx (by rw [hbad, nz_stop hkz hC (by rw [hc]; decide), hc]; decide), hbad, nz_stop hkz hC (by rw [hc]; decide), hc], mo07⟩
                | false =>
                have hlt := of_decide_eq_false q4
                obtain ⟨z, hzz⟩ : ∃ z, a.2.2[y]? = some z := ⟨_, List.getElem?_eq_getElem (by omega)⟩
                obtain ⟨ga, roa, rfl, gga, cca⟩ := ra.cell hzz
                obtain ⟨gb, rob, rfl, ggb, ccb⟩ := rx.cell hbk
                have zy : (0 : Int) ≤ (y : Int) := by omega
                have hyl : (y : Int) < ((a.2.2.length : Nat) : Int) := by omega
                have hkl : (k : Int) < ((x.bl.length : Nat) : Int) := by omega
                have hcc : blkC x.bl a.2.2 (posB x.set) k = if beqB bk z = true then 0 else 11 := by
                  unfold blkC
                  rw [hy]
                  show (match a.2.2[y]? with | none => (11 : Int) | some z => if beqB (x.bl.getD k .empty) z = true then 0 else 11) = _
                  rw [hzz, List.getD_eq_getElem?_getD, hbk]; rfl
                refine CW_seq (CW_block (CW_seq (CW_drawG hmix 24 (by kernel_rfl) (by kernel_rfl) ?_)))
                simp only [zZ, reduceIte, Nat.reduceLT, Int.reduceToNat, Int.reduceLE, Int.reduceEq, Int.reduceLT, Nat.reduceEqDiff, Nat.reduceAdd, zDk, pd_eql, pd_neq, pd_eql0, pd_neq0, zPt, sPhGB, sHeadGB, sHOneG, sHOpG, isVal, sGuardedV, app_none, emp_nil, Nat.reduceSub, Nat.sub_zero, fa_Arc1, fa_Q2, fa_Q3, g87, g67, c7A, c8O, c9O, zk, hkS, and_self, Int.toNat_natCast, hgw, cw, q4, zy, hyl, hkl, gga, cca, ggb, ccb]
                have qc : beqB z bk = beqB bk z := by rw [beqB_dec, beqB_dec]; exact decide_eq_decide.2 ⟨Eq.symm, Eq.symm⟩
                rw [qc]
                cases q5 : beqB bk z with
                | false =>
                  have hc : blkC x.bl a.2.2 (posB x.set) k = 11 := by rw [hcc, q5]; rfl
                  refine CW_cond true (by rfl) (fun _ => CW_seq (CW_region ?_)) (fun h => by cases h)
                  simp only [zZ, reduceIte, Nat.reduceLT, Int.reduceToNat, Int.reduceLE, Int.reduceEq, Int.reduceLT, Nat.reduceEqDiff, Nat.reduceAdd, zDk, pd_eql, pd_neq, pd_eql0, pd_neq0, zPt]
                  refine CW_ret ?_
                  simp only [zZ, reduceIte, Nat.reduceLT, Int.reduceToNat, Int.reduceLE, Int.reduceEq, Int.reduceLT, Nat.reduceEqDiff, Nat.reduceAdd, zDk, pd_eql, pd_neq, pd_eql0, pd_neq0, zPt, mEnd, sAnswer, sAnswer.sRes]
                  exact ⟨_, Thin.refl _, by rw [soundV_o hKz hz hx (by rw [hbad, nz_stop hkz hC (by rw [hc]; decide), hc]; decide), hbad, nz_stop hkz hC (by rw [hc]; decide), hc], mo07⟩
                | true =>
                  have hc : blkC x.bl a.2.2 (posB x.set) k = 0 := by rw [hcc, q5]; rfl
                  refine CW_cond false (by rfl) (fun h => by cases h) (fun _ => CW_skip ?_)
                  simp only [zZ, reduceIte, Nat.reduceLT, Int.reduceToNat, Int.reduceLE, Int.reduceEq, Int.reduceLT, Nat.reduceEqDiff, Nat.reduceAdd, zDk, pd_eql, pd_neq, pd_eql0, pd_neq0, zPt]
                  refine CW_region ?_
                  simp only [zZ, reduceIte, Nat.reduceLT, Int.reduceToNat, Int.reduceLE, Int.reduceEq, Int.reduceLT, Nat.reduceEqDiff, Nat.reduceAdd, zDk, pd_eql, pd_neq, pd_eql0, pd_neq0, zPt, wk]
                  refine ⟨[1, 5, 6, 8, 9], ?_⟩
                  simp only [zZ, reduceIte, Nat.reduceLT, Int.reduceToNat, Int.reduceLE, Int.reduceEq, Int.reduceLT, Nat.reduceEqDiff, Nat.reduceAdd, zDk, pd_eql, pd_neq, pd_eql0, pd_neq0, zPt, keepF]
                  exact ⟨_, Thin.refl _, (posB x.set).length - (k + 1), ⟨k + 1, rfl, rfl, by omega, nz_step hkz (hC.trans (congrArg some hc)), rfl⟩, by omega⟩
              · have hkS := of_decide_eq_false hq
                simp only [zZ, reduceIte, Nat.reduceLT, Int.reduceToNat, Int.reduceLE, Int.reduceEq, Int.reduceLT, Nat.reduceEqDiff, Nat.reduceAdd, zDk, pd_eql, pd_neq, pd_eql0, pd_neq0, zPt]
                refine CW_region ?_
                simp only [zZ, reduceIte, Nat.reduceLT, Int.reduceToNat, Int.reduceLE, Int.reduceEq, Int.reduceLT, Nat.reduceEqDiff, Nat.reduceAdd, zDk, pd_eql, pd_neq, pd_eql0, pd_neq0, zPt, w9]
                refine ⟨[1, 5], ?_⟩
                simp only [zZ, reduceIte, Nat.reduceLT, Int.reduceToNat, Int.reduceLE, Int.reduceEq, Int.reduceLT, Nat.reduceEqDiff, Nat.reduceAdd, zDk, pd_eql, pd_neq, pd_eql0, pd_neq0, zPt, keepF]
                exact ⟨_, Thin.refl _, B.length - (i + 1), ⟨i + 1, rfl, rfl, by omega, nz_step hz (by rw [List.getElem?_map, hx]; exact congrArg some (hbad.trans (nz_end hkz (by rw [List.length_map, List.length_range]; omega)))), (mo2.trans mo4).trans mo47⟩, by omega⟩
        · have hiO := of_decide_eq_false hq
          simp only [zZ, reduceIte, Nat.reduceLT, Int.reduceToNat, Int.reduceLE, Int.reduceEq, Int.reduceLT, Nat.reduceEqDiff, Nat.reduceAdd, zDk, pd_eql, pd_neq, pd_eql0, pd_neq0, zPt]
          refine ⟨[], ?_⟩
          simp only [zZ, reduceIte, Nat.reduceLT, Int.reduceToNat, Int.reduceLE, Int.reduceEq, Int.reduceLT, Nat.reduceEqDiff, Nat.reduceAdd, zDk, pd_eql, pd_neq, pd_eql0, pd_neq0, zPt, keepF]
          exact ⟨_, Thin.refl _, nz_end hz (by rw [List.length_map, List.length_map]; omega), mo2⟩
    · rintro f M2 ⟨rfl, hOz, mo2⟩
      refine CW_seq (CW_region ?_)
      simp only [zZ, reduceIte, Nat.reduceLT, Int.reduceToNat, Int.reduceLE, Int.reduceEq, Int.reduceLT, Nat.reduceEqDiff, Nat.reduceAdd, zDk, pd_eql, pd_neq, pd_eql0, pd_neq0, zPt]
      refine CW_ret ?_
      simp only [zZ, reduceIte, Nat.reduceLT, Int.reduceToNat, Int.reduceLE, Int.reduceEq, Int.reduceLT, Nat.reduceEqDiff, Nat.reduceAdd, zDk, pd_eql, pd_neq, pd_eql0, pd_neq0, zPt, mEnd, sAnswer, sAnswer.sRes]
      exact ⟨_, Thin.refl _, by rw [soundV_end (i := (B.map Prod.fst).length) hKz (by rw [List.take_of_length_le (Nat.le_of_eq (List.length_map _))]; exact hOz) (by omega)], mo1.trans mo2⟩
end Go.Proofs.YtfdijpacbhomjaaGreatDoor
namespace Go.Proofs.YtfdijpacbhomjaaGreatDoor
open Go.RowKit Abs
set_option maxRecDepth 100000 in
theorem rep_header {m : Mem} {B : Nat} {cs : List Value} (h : ARep Tryz.prog m B 81 cs) : ∃ x : Header, cs = x.cells ∧ ((Lit.int .i64 x.id).wf = true ∧ (Lit.int .i64 x.n).wf = true ∧ (Lit.int .i64 x.bytes).wf = true ∧ (Lit.int .i64 x.raw).wf = true) := by
  obtain ⟨hl, hf⟩ := h.inv_struct Tryz.underlying81
  rw [cellsHeader] at hl
  match cs, hl with
  | [c0, c1, c2, c3, c4, c5, c6], _ =>
  obtain ⟨a0, r0, w0⟩ := (hf 0 _ rfl).inv_int Tryz.underlying3
  obtain ⟨a1, r1, w1⟩ := (hf 1 _ rfl).inv_string Tryz.underlying9
  obtain ⟨a2, r2, w2⟩ := (hf 2 _ rfl).inv_int Tryz.underlying3
  obtain ⟨a3, r3, w3⟩ := (hf 3 _ rfl).inv_int Tryz.underlying3
  obtain ⟨a4, r4, w4⟩ := (hf 4 _ rfl).inv_int Tryz.underlying3
  obtain ⟨a5, r5, w5⟩ := (hf 5 _ rfl).inv_string Tryz.underlying9
  obtain ⟨a6, r6, w6⟩ := (hf 6 _ rfl).inv_string Tryz.underlying9
  simp [cellsInt, cellsStr] at r0 r1 r2 r3 r4 r5 r6
  exact ⟨⟨a0, a1, a2, a3, a4, a5, a6⟩, by simp [Header.cells, *], w0, w2, w3, w4⟩
end Go.Proofs.YtfdijpacbhomjaaGreatDoor
