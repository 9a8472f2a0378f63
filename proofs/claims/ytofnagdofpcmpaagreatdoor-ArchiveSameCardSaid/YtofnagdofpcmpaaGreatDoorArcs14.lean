/-
  Sectors of archives, and sets of blocks, in plain words.
  How many bits of a word are 1, plainly: the sums in fields come to the count.
  The walks of bitset: one number; how many.
  Texts, one behind the other; digits.
  The walks of bitset: how many, all, how it is laid, one within another one.
  The walks of bitset: new ones, one within another one, read.
  The walks of bitset: one within another one; a set is read.
  A text, cut.
  The walk of enc.Take, at eight bytes.
  What a disk's sectors may hold: writes, syncs, crashes, in plain words.
  What is laid in a sector is read as it was, in plain words.
  The walk of bitset.Take.
  The headers' and the catalogue's functions, flat.
  The walks of catalog: Check, Meet, Put.
  The walk of catalog.Take.
  The walks of journal: blank, Check, Put.
  The walk of journal.Take.
  A depot in memory; the walk of find.
  The walks of find, Head, Got.
  The walks of Got, Epoch, Staged, note, keep.
  The walk of keep; a depot turns.
  The walk of keep.
  The walk of Abort.
  The walk of Stage.
  The walks of slices.Index of nil, among a depot's pointers.
  Appends in any memory.
  Lists of one's own, of whatever elements, in memory.
  The walk of places.
  The walk of fits.
  The walk of blocks.
  merkle's leaves, nodes and roots; an archive's root.
  Chapter 19's example comes out true.
  The law of chapter 19.3: two archives are the same, or not.
-/
import Derived.Test.YtofnagdofpcmpaaGreatDoorArcs12
import Derived.Test.YtofnagdofpcmpaaGreatDoorArcs13
import Derived.Test.YtofnagdofpcmpaaGreatDoorArcs01
import Derived.Test.YtofnagdofpcmpaaGreatDoorArcs02
import Derived.Test.YtofnagdofpcmpaaGreatDoorArcs11
import Derived.Test.YtofnagdofpcmpaaGreatDoorArcs09
import Derived.Lib.AtoiAllCases
import Derived.Lib.ItoaMem
import Derived.Test.YtofnagdofpcmpaaGreatDoorArcs03
import Derived.Test.YtofnagdofpcmpaaGreatDoorArcs10
set_option linter.all false
namespace Go.Proofs.YtofnagdofpcmpaaGreatDoor
open Go.RowKit Abs
instance hdrDec : DecidableEq Header := fun a b =>
  if h : a.id = b.id ∧ a.salt = b.salt ∧ a.n = b.n ∧ a.bytes = b.bytes ∧ a.raw = b.raw ∧ a.root = b.root ∧ a.tag = b.tag then .isTrue (by
    obtain ⟨a0, a1, a2, a3, a4, a5, a6⟩ := a
    obtain ⟨b0, b1, b2, b3, b4, b5, b6⟩ := b
    obtain ⟨h0, h1, h2, h3, h4, h5, h6⟩ := h
    simp only at h0 h1 h2 h3 h4 h5 h6
    subst h0 h1 h2 h3 h4 h5 h6
    rfl) else .isFalse fun e => h (by subst e; exact ⟨rfl, rfl, rfl, rfl, rfl, rfl, rfl⟩)
structure Ext where
  head : Header
  base : Int
def leafV (b : List UInt8) : List UInt8 := Sha.sum (0 :: b)
end Go.Proofs.YtofnagdofpcmpaaGreatDoor
namespace Go.Proofs.YtofnagdofpcmpaaGreatDoor
open Go.RowKit Abs
theorem msum_at (x : Int) (v : Value) (xs : List ByteArray) (m : Mem) (hd : Rd m 1 v xs.length (xs.map .string)) (hlen : xs.length ≤ maxLen) (hsz : (joined xs).length ≤ 140737488355200) :
    Abs.Spec Tryz.prog 128 [.int .i64 x, v] m fun u M => u = .string (str (Sha.msum x (joined xs))) ∧ M = m :=
  Spec.of_below rfl fun ι w ys hy hr => by
    obtain ⟨a', b', rfl, ha, hb⟩ := vrels_two hy
    cases ha
    exact msum_any x b' xs w (Rd.strs hr hd hb) hlen hsz
theorem msum32 (l : List UInt8) : Sha.msum 32 l = Sha.sum l := by
  unfold Sha.msum
  rw [List.take_of_length_le]
  rw [Sha.sum_length]
  decide
theorem new_str2 (a b : ByteArray) : nBuildSlice Tryz.prog 22 2 [(0, .string a), (1, .string b)] = some (.cells false 1 [.string a, .string b]) := by kernel_rfl
theorem rd_new (m : Mem) (n : Nat) (cs : List Value) (k : Nat) (hk : cs.length = k * n) (hm : k ≤ maxLen) : Rd (m.push (.cells false n cs)) n (.slice (some ⟨m.size, 0, none⟩) k k) k cs :=
  ⟨_, _, rfl, hk, Nat.le_refl _, hm, (fun h => by cases h), fun p hp => ⟨_, (Option.some.inj hp).symm, fun _ => ⟨false, Mem.get_push_new _ _⟩⟩⟩
set_option maxRecDepth 100000 in
set_option maxHeartbeats 2000000 in
theorem leaf_at (s : List UInt8) (hs : s.length ≤ 1000000) (m : Mem) : Abs.Spec Tryz.prog 83 [.int .i64 32, .string (str s)] m fun u M => u = .string (str (leafV s)) ∧ M = m := by
  refine Abs.Spec.of_empty (by intro x hx; simp at hx; rcases hx with rfl | rfl <;> rfl) rfl ?_ m
  refine WM Tryz.func83 Tryz.results83 Tryz.ntmps83 fun _ => ?_
  have hj : joined [str [0], str s] = 0 :: s := by simp [joined, str]
  refine CW_seq (R0 ?_)
  refine CW_seq (R1 @new_str2 ?_)
  refine K0 (msum_at 32 _ [str [0], str s] _ (rd_new _ 1 _ 2 rfl (by decide)) (show 2 ≤ maxLen by decide) (by rw [hj]; simp only [List.length_cons]; omega)) ?_
  refine T0 ?_
  exact ⟨_, Thin.refl _, by rw [hj, msum32]; rfl⟩
end Go.Proofs.YtofnagdofpcmpaaGreatDoor
namespace Go.Proofs.YtofnagdofpcmpaaGreatDoor
open Go.RowKit Abs
noncomputable def leafG (ys : List Value) : Option Value := match ys with
  | [.int .i64 (.ofNat n), .string a] => bif Nat.beq n 32 then bif Nat.ble a.size 1000000 then some (.string (str (leafV a.data.toList))) else none else none
  | _ => none
theorem leafG_known (ys : List Value) (v : Value) (h : leafG ys = some v) : Known Tryz.prog 83 ys v := by
  unfold leafG at h
  split at h <;> first | (cases h; done) | skip
  rename_i n a
  cases h1 : Nat.beq n 32 <;> rw [h1] at h <;> first | (cases h; done) | skip
  cases h2 : Nat.ble a.size 1000000 <;> rw [h2] at h <;> first | (cases h; done) | skip
  cases h
  have h1 := Nat.eq_of_beq_eq_true h1
  have h2 := Nat.le_of_ble_eq_true h2
  subst h1
  exact fun m => leaf_at a.data.toList (by simpa using h2) m
def tab19 : List (FuncId × List Value × Value) := [
  (60, [.string (str in19)], .string (str out19)),
  (61, [.string (str in19)], .string (str rich19)),
  (38, [.string (str out19), .int .i64 (.ofNat 5)], .tuple #[.string (str in19), .int .i64 (.ofNat 7), .int .i64 (.ofNat 0)]),
  (78, [.string (str enc19), .string (str nonce19), .int .i64 (.ofNat 1), .string (str chunk19)], .tuple #[.string (str ciph19), .int .i64 (.ofNat 0)]),
  (78, [.string (str enc19), .string (str nonce19), .int .i64 (.ofNat 1), .string (str ciph19)], .tuple #[.string (str chunk19), .int .i64 (.ofNat 0)]),
  (40, [.string (str [115]), .string (str Ex.salt)], Ex.keys1),
  (40, [.string (str [115]), .string (str [])], Ex.keys2)]
theorem tab19_known : ∀ e ∈ tab19, Known Tryz.prog e.1 e.2.1 e.2.2 := by
  intro e he
  simp only [tab19, List.mem_cons, List.not_mem_nil, or_false] at he
  rcases he with rfl | rfl | rfl | rfl | rfl | rfl | rfl
  · exact s19Simple
  · exact s19Rich
  · exact s19Infl
  · exact s19Xord
  · exact s19Xore
  · exact Ex.keys1_known
  · exact Ex.keys2_known
noncomputable def T19 : Caller := alsoT (tabT tab19) (tagT (flatT 83 leafG solT))
theorem T19_good : Abs.Good Tryz.prog T19 := alsoT_good (tabT_good tab19 tab19_known) (tagT_good (flatT_good solT_good leafG_known))
set_option maxRecDepth 100000 in
theorem awake19_spec (m : Mem) : Abs.Spec Tryz.prog 14 [] m fun u m' => u = .bool true ∧ m' = m :=
  known_of_run (xs := []) (v := .bool true) hmix T19_good (L := 100000) (n := 60) (fun x hx => by cases hx) rfl (by kernel_rfl) m
end Go.Proofs.YtofnagdofpcmpaaGreatDoor
namespace Go.Proofs.YtofnagdofpcmpaaGreatDoor
open Go.RowKit Abs
set_option maxRecDepth 100000 in
theorem arg_arch {m : Mem} {B : Nat} {v : Value} (h : ArgOf Tryz.prog m B 36 v) :
    ∃ (x : Header) (bs : List ByteArray) (p : Option Addr) (k : Nat), v = .agg (archC x (.slice p bs.length k)) ∧ Rd m 1 (.slice p bs.length k) bs.length (bs.map .string) ∧ bs.length ≤ B := by
  obtain ⟨cs, rfl, h2⟩ := arg_row Tryz.underlying36 h
  obtain ⟨hl, hf⟩ := h2.inv_struct Tryz.underlying36
  have hl : cs.length = 8 := hl
  match cs, hl with
  | [c0, c1, c2, c3, c4, c5, c6, c7], _ =>
  obtain ⟨x, hx, _⟩ := rep_header (hf 0 _ rfl)
  obtain ⟨v, ss, hv, hr, hlen, _⟩ := ARep.list (fun s : ByteArray => [Value.string s]) (fun _ => True) (n := 1) Tryz.underlying22 (by kernel_rfl) (fun cs hc => by
    obtain ⟨s, rfl, _⟩ := hc.inv_string Tryz.underlying9
    exact ⟨s, rfl, trivial⟩) (hf 1 _ rfl)
  have hx2 : [c0, c1, c2, c3, c4, c5, c6] = x.cells := hx
  have hv2 : c7 = v := by
    have h : [c7] = [v] := hv
    simpa using h
  have ef : ∀ l : List ByteArray, l.flatMap (fun s : ByteArray => [Value.string s]) = l.map .string := fun l => by induction l with
    | nil => rfl
    | cons a r ih => rw [List.flatMap_cons, ih]; rfl
  rw [ef] at hr
  simp only [Header.cells, List.cons.injEq, and_true] at hx2
  obtain ⟨rfl, rfl, rfl, rfl, rfl, rfl, rfl⟩ := hx2
  subst hv2
  obtain ⟨p, k, e, hrest⟩ := id hr
  subst e
  exact ⟨x, ss, p, k, rfl, hr, hlen.1⟩
theorem rd_same {M M' : Mem} {n k : Nat} {v : Value} {cs : List Value} (h : Rd M n v k cs) (hs : ∀ b x, M.get b = some x → M'.get b = some x) : Rd M' n v k cs := by
  obtain ⟨a, c, h1, h2, h3, h4, h5, h6⟩ := h
  refine ⟨a, c, h1, h2, h3, h4, h5, fun p hp => ?_⟩
  obtain ⟨b, h7, h8⟩ := h6 p hp
  refine ⟨b, h7, fun hk => ?_⟩
  obtain ⟨ro, h9⟩ := h8 hk
  exact ⟨ro, hs _ _ h9⟩
set_option maxRecDepth 100000 in
set_option maxHeartbeats 8000000 in
theorem archive_same (h k : Header) (xs ys : List ByteArray) (p q : Option Addr) (c d : Nat) (M : Mem) (h1 : Rd M 1 (.slice p xs.length c) xs.length (xs.map .string)) (h2 : Rd M 1 (.slice q ys.length d) ys.length (ys.map .string))
    (hx : xs.length ≤ 140737488355327) (hy : ys.length ≤ 140737488355327) :
    Abs.Spec Tryz.prog 5 [.agg (archC h (.slice p xs.length c)), .agg (archC k (.slice q ys.length d))] M fun u _ => u = .bool true := by
  have bx : ∀ (h : Header) a n c, nBox Tryz.prog 36 (.agg (archC h (.slice a n c))) = some (.cells false (aStride Tryz.prog 36) (archC h (.slice a n c)).toList) := fun _ _ _ _ => bx_Arc _ rfl
  generalize aStride Tryz.prog 36 = s3 at bx
  have row8 : ∀ (s : Nat) (h : Header) V, rowIn 8 0 (some (.cells false s (archC h V).toList)) = some (.agg (archC h V)) := fun _ _ _ => rfl
  obtain ⟨M1, hM1⟩ : ∃ M1, M1 = M.push (.cells false s3 (archC h (.slice p xs.length c)).toList) := ⟨_, rfl⟩
  obtain ⟨M2, hM2⟩ : ∃ M2, M2 = M1.push (.cells false s3 (archC k (.slice q ys.length d)).toList) := ⟨_, rfl⟩
  have o2 : ∀ b x, M.get b = some x → M2.get b = some x := fun b x hx => by
    have := Mem.get_lt hx
    have h3 : M1.get b = some x := by rw [hM1, Mem.get_push_old this]; exact hx
    rw [hM2, Mem.get_push_old (Mem.get_lt h3)]; exact h3
  have z1 : M1.size = M.size + 1 := by rw [hM1, Mem.size_push]
  have g1 : M2.get M.size = some (.cells false s3 (archC h (.slice p xs.length c)).toList) := by rw [hM2, Mem.get_push_old (by omega), hM1, Mem.get_push_new]
  have g2 : M2.get M1.size = some (.cells false s3 (archC k (.slice q ys.length d)).toList) := by rw [hM2, Mem.get_push_new]
  have R1 := rd_same h1 o2
  have R2 := rd_same h2 o2
  have sA := same_at M2 h k _ _ xs ys R1 R2 hx
  have rA := rsame_at M2 h k _ _ xs ys R1 R2 hx
  have sAA := same_at M2 h h _ _ xs xs R1 R1 hx
  have sBA := same_at M2 k h _ _ ys xs R2 R1 hy
  have eAA : sameArch h h xs xs = true := sameArch_self h xs
  have eBA : sameArch k h ys xs = sameArch h k xs ys := sameArch_comm h k xs ys
  rw [eAA] at sAA
  rw [eBA] at sBA
  obtain ⟨b, hb⟩ : ∃ b, sameArch h k xs ys = b := ⟨_, rfl⟩
  rw [hb] at sA rA sBA
  have bb : aBin Tryz.prog .eql 4 false (.bool b) (.bool b) = some (.bool true) := by cases b <;> rfl
  clear hb eBA
  refine Abs.Spec.walkM Tryz.func5 (by rfl) _ Tryz.results5 _ Tryz.ntmps5 (by simp) ?_
  intro _ _ _
  refine CW_seq (CW_region ?_)
  simp only [zZ, reduceIte, Nat.reduceLT, Int.reduceToNat, Int.reduceLE, Int.reduceEq, Int.reduceLT, Nat.reduceEqDiff, Nat.reduceAdd, zDk, bx]
  rw [← hM1, ← hM2]
  refine CW_seq (CW_draw hmix 18 (by kernel_rfl) (by kernel_rfl) ?_)
  simp only [zZ, reduceIte, Nat.reduceLT, Int.reduceToNat, Int.reduceLE, Int.reduceEq, Int.reduceLT, Nat.reduceEqDiff, Nat.reduceAdd, zDk, g1, g2, row8]
  refine ⟨by kernel_rfl, _, sA, ?_⟩
  refine ⟨by decide, ?_⟩
  simp only [zZ, reduceIte, Nat.reduceLT, Int.reduceToNat, Int.reduceLE, Int.reduceEq, Int.reduceLT, Nat.reduceEqDiff, Nat.reduceAdd, zDk, g1, g2, row8]
  refine ⟨by kernel_rfl, _, rA, ?_⟩
  refine ⟨by decide, ?_⟩
  simp only [zZ, reduceIte, Nat.reduceLT, Int.reduceToNat, Int.reduceLE, Int.reduceEq, Int.reduceLT, Nat.reduceEqDiff, Nat.reduceAdd, zDk, g1, g2, row8, bb]
  refine ⟨by kernel_rfl, _, sAA, ?_⟩
  refine ⟨by decide, ?_⟩
  simp only [zZ, reduceIte, Nat.reduceLT, Int.reduceToNat, Int.reduceLE, Int.reduceEq, Int.reduceLT, Nat.reduceEqDiff, Nat.reduceAdd, zDk, g1, g2, row8, bb]
  refine ⟨by kernel_rfl, _, sBA, ?_⟩
  refine ⟨by decide, ?_⟩
  simp only [zZ, reduceIte, Nat.reduceLT, Int.reduceToNat, Int.reduceLE, Int.reduceEq, Int.reduceLT, Nat.reduceEqDiff, Nat.reduceAdd, zDk, g1, g2, row8, bb]
  refine ⟨by kernel_rfl, _, sA, ?_⟩
  rintro _ M9 ⟨rfl, e9⟩; replace e9 := e9.symm; subst e9
  simp only [zZ, reduceIte, Nat.reduceLT, Int.reduceToNat, Int.reduceLE, Int.reduceEq, Int.reduceLT, Nat.reduceEqDiff, Nat.reduceAdd, zDk, bb]
  refine ⟨by kernel_rfl, _, awake19_spec M2, ?_⟩
  rintro _ M9 ⟨rfl, e9⟩; replace e9 := e9.symm; subst e9
  simp only [zZ, reduceIte, Nat.reduceLT, Int.reduceToNat, Int.reduceLE, Int.reduceEq, Int.reduceLT, Nat.reduceEqDiff, Nat.reduceAdd, zDk]
  refine CW_ret ?_
  simp only [zZ, reduceIte, Nat.reduceLT, Int.reduceToNat, Int.reduceLE, Int.reduceEq, Int.reduceLT, Nat.reduceEqDiff, Nat.reduceAdd, zDk, mEnd, sAnswer, sAnswer.sRes]
  exact ⟨_, Thin.refl _⟩
end Go.Proofs.YtofnagdofpcmpaaGreatDoor
