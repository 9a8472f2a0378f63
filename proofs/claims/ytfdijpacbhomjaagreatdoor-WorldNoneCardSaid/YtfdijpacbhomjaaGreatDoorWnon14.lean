/-
  Sectors of archives, and sets of blocks, in plain words.
  How many bits of a word are 1, plainly: the sums in fields come to the count.
  The walks of bitset: one number; how many.
  Texts, one behind the other; digits.
  The walks of bitset: how many, all, how it is laid, one within another one.
  Sectors of zeros: no entry, no record.
  The walk of scrub.Scan on a disk of zeros, but for its epoch.
  A new block that turns.
  The walk of scrub.Scan on a disk of zeros, but for its epoch: the whole.
  The walk of depot.Open on a disk of zeros, but for its epoch.
  The walk of disk.New.
  A new disk is blank.
  A region that draws its order, in whose head a call may make blocks.
  Walks: a region that draws its order runs as one order says; or, where a block is made beside a call, as two.
  A step that came in: seven cells.
  What path.Check says: plain.
-/
import Derived.Test.YtfdijpacbhomjaaGreatDoorWnon12
import Derived.Test.YtfdijpacbhomjaaGreatDoorWnon13
import Derived.Test.YtfdijpacbhomjaaGreatDoorWnon01
import Derived.Test.YtfdijpacbhomjaaGreatDoorWnon02
import Derived.Test.YtfdijpacbhomjaaGreatDoorWnon09
import Derived.Test.YtfdijpacbhomjaaGreatDoorWnon10
import Derived.Lib.AtoiAllCases
import Derived.Lib.ItoaMem
import Derived.Test.YtfdijpacbhomjaaGreatDoorWnon03
import Derived.Lib.SplitLaws
import Derived.Lib.IndexBytes
import Derived.Lib.Strings
import Derived.Test.YtfdijpacbhomjaaGreatDoorWnon11
set_option linter.all false
namespace Go.Proofs.YtfdijpacbhomjaaGreatDoor
open Go.RowKit Abs
instance hdrDec : DecidableEq Header := fun a b =>
  if h : a.id = b.id ∧ a.salt = b.salt ∧ a.n = b.n ∧ a.bytes = b.bytes ∧ a.raw = b.raw ∧ a.root = b.root ∧ a.tag = b.tag then .isTrue (by
    obtain ⟨a0, a1, a2, a3, a4, a5, a6⟩ := a
    obtain ⟨b0, b1, b2, b3, b4, b5, b6⟩ := b
    obtain ⟨h0, h1, h2, h3, h4, h5, h6⟩ := h
    simp only at h0 h1 h2 h3 h4 h5 h6
    subst h0 h1 h2 h3 h4 h5 h6
    rfl) else .isFalse fun e => h (by subst e; exact ⟨rfl, rfl, rfl, rfl, rfl, rfl, rfl⟩)
structure Ext where
  head : Header
  base : Int
def leafV (b : List UInt8) : List UInt8 := Sha.sum (0 :: b)
end Go.Proofs.YtfdijpacbhomjaaGreatDoor
namespace Go.Proofs.YtfdijpacbhomjaaGreatDoor
open Go.RowKit Abs
structure More (M M' : Mem) : Prop where
  get : ∀ b x, M.get b = some x → M'.get b = some x
  size : M.size ≤ M'.size
theorem More.refl (M : Mem) : More M M := ⟨fun _ _ h => h, Nat.le_refl _⟩
theorem More.trans {M M' M'' : Mem} (h : More M M') (k : More M' M'') : More M M'' := ⟨fun b x hb => k.get b x (h.get b x hb), Nat.le_trans h.size k.size⟩
theorem More.push (M : Mem) (y : Blk) : More M (M.push y) := ⟨fun b x hb => by rw [Mem.get_push_old (Mem.get_lt hb)]; exact hb, by rw [Mem.size_push]; omega⟩
end Go.Proofs.YtfdijpacbhomjaaGreatDoor
--LONG
/-
  Of a world that is none there is nothing.
-/
namespace Go.Proofs.YtfdijpacbhomjaaGreatDoor
open Go.RowKit Abs
def noTrace : Value := .agg #[.slice none 0 0, .slice none 0 0, .int .i64 0, .int .i64 0, .slice none 0 0, .int .i64 0]
theorem wtrace_none : Known Tryz.prog 6 [.pointer none] noTrace := known_of_val hmix noT_good (L := 10) (n := 5) (List.all_eq_true.1 rfl) rfl (by kernel_rfl)
theorem wnow_none : Known Tryz.prog 8 [.pointer none] (.int .i64 0) := known_of_val hmix noT_good (L := 10) (n := 5) (List.all_eq_true.1 rfl) rfl (by kernel_rfl)
theorem wup_none0 : Known Tryz.prog 9 [.pointer none, .int .i64 0] (.bool false) := known_of_val hmix noT_good (L := 10) (n := 5) (List.all_eq_true.1 rfl) rfl (by kernel_rfl)
theorem wup_none1 : Known Tryz.prog 9 [.pointer none, .int .i64 1] (.bool false) := known_of_val hmix noT_good (L := 10) (n := 5) (List.all_eq_true.1 rfl) rfl (by kernel_rfl)
theorem wdepot_none : Known Tryz.prog 10 [.pointer none, .int .i64 0] (.pointer none) := known_of_val hmix noT_good (L := 10) (n := 5) (List.all_eq_true.1 rfl) rfl (by kernel_rfl)
theorem wkept_none : Known Tryz.prog 11 [.pointer none, .int .i64 0] (.slice none 0 0) := known_of_val hmix noT_good (L := 10) (n := 8) (List.all_eq_true.1 rfl) rfl (by kernel_rfl)
theorem wpacked_none : Known Tryz.prog 12 [.pointer none] (.slice none 0 0) := known_of_val hmix noT_good (L := 10) (n := 5) (List.all_eq_true.1 rfl) rfl (by kernel_rfl)
theorem wdone_none : Known Tryz.prog 13 [.pointer none] (.slice none 0 0) := known_of_val hmix noT_good (L := 10) (n := 5) (List.all_eq_true.1 rfl) rfl (by kernel_rfl)
theorem wway_none : Known Tryz.prog 14 [.pointer none] (.int .i64 0) := known_of_val hmix noT_good (L := 10) (n := 5) (List.all_eq_true.1 rfl) rfl (by kernel_rfl)
set_option maxRecDepth 100000 in
set_option maxHeartbeats 2000000 in
theorem wdo_none (M : Mem) (xs : Array Value) (h1 : oneAll xs.toList = true) : Abs.Spec Tryz.prog 7 [.pointer none, .agg xs] M fun u M' => u = .int .i64 8 ∧ More M M' := by
  refine Abs.Spec.walkM Tryz.func7 (by rfl) _ Tryz.results7 _ Tryz.ntmps7 (by simp) ?_
  intro _ _ _
  have bx : nBox Tryz.prog 26 (.agg xs) = some (.cells false (aStride Tryz.prog 26) xs.toList) := nBox_row 26 h1
  generalize aStride Tryz.prog 26 = s1 at bx
  have pe : aBin Tryz.prog .eql 27 true (.pointer none) (.pointer none) = some (.bool true) := by kernel_rfl
  refine CW_seq (CW_region ?_)
  simp only [zZ, reduceIte, Nat.reduceLT, Int.reduceToNat, Int.reduceLE, Int.reduceEq, Int.reduceLT, Nat.reduceEqDiff, Nat.reduceAdd, zDk, pd_eql, pd_neq, pd_eql0, pd_neq0, zPt, bx]
  refine CW_seq (CW_seq (CW_region ?_))
  simp only [zZ, reduceIte, Nat.reduceLT, Int.reduceToNat, Int.reduceLE, Int.reduceEq, Int.reduceLT, Nat.reduceEqDiff, Nat.reduceAdd, zDk, pd_eql, pd_neq, pd_eql0, pd_neq0, zPt, pe]
  refine CW_cond true (by rfl) (fun _ => CW_seq (CW_region ?_)) (fun h => by cases h)
  simp only [zZ, reduceIte, Nat.reduceLT, Int.reduceToNat, Int.reduceLE, Int.reduceEq, Int.reduceLT, Nat.reduceEqDiff, Nat.reduceAdd, zDk, pd_eql, pd_neq, pd_eql0, pd_neq0, zPt]
  refine CW_ret ?_
  simp only [zZ, reduceIte, Nat.reduceLT, Int.reduceToNat, Int.reduceLE, Int.reduceEq, Int.reduceLT, Nat.reduceEqDiff, Nat.reduceAdd, zDk, pd_eql, pd_neq, pd_eql0, pd_neq0, zPt, mEnd, sAnswer, sAnswer.sRes]
  exact ⟨_, Thin.refl _, More.push _ _⟩
end Go.Proofs.YtfdijpacbhomjaaGreatDoor
namespace Go.Proofs.YtfdijpacbhomjaaGreatDoor
open Go.RowKit Abs
theorem keys_spec (secret salt : ByteArray) (h1 : secret.size ≤ 140737488355000) (h2 : salt.size ≤ 140737488355000) (m : Mem) :
    Abs.Spec Tryz.prog 89 [.string secret, .string salt] m fun u M => u = keysV secret.data.toList salt.data.toList ∧ M = m :=
  Abs.Spec.of_flat (by simp [flat]) rfl fun w => keys_any secret salt w h1 h2
def zeroExt : List Value := [.int .i64 0, .string ⟨#[]⟩, .int .i64 0, .int .i64 0, .int .i64 0, .string ⟨#[]⟩, .string ⟨#[]⟩, .int .i64 0]
def zeroRec : List Value := zeroExt ++ [.int .i64 0, .int .u64 0, .int .u64 0, .int .u64 0, .int .u64 0]
theorem bd_Ext0 : aBuild Tryz.prog 155 [] = some (.agg zeroExt.toArray) := by kernel_rfl
theorem bd_Rec0 : aBuild Tryz.prog 203 [] = some (.agg zeroRec.toArray) := by kernel_rfl
theorem Only.setNew {M M1 : Mem} (h : Only [] M M1) {k : Nat} (hk : M.size ≤ k) (o : Option Blk) : Only [] M (M1.set k o) := fun b x hb hx => by
  rw [Mem.get_set_ne (by have := get_live hx; omega)]
  exact h b x hb hx
theorem trim_zero : trim0 (List.replicate 256 0) = [] := by decide +kernel
set_option maxRecDepth 100000 in
set_option maxHeartbeats 2000000 in
theorem ctake_blank (M : Mem) (s : List UInt8) (hs : s.length = 256) (h0 : trim0 s = []) :
    Abs.Spec Tryz.prog 91 [.string (str s)] M fun u M' => u = .tuple #[.agg zeroExt.toArray, .int .i64 8] ∧ Only [] M M' ∧ M.size ≤ M'.size := by
  refine WMx Tryz.func91 Tryz.results91 Tryz.ntmps91 fun hc hx k => ?_
  have hal : nAlloc Tryz.prog 155 = some (.cells false (aStride Tryz.prog 155) zeroExt) := al_Ext
  generalize aStride Tryz.prog 155 = s1 at hal
  have e1 : (str s).data.toList = s := rfl
  refine CW_seq (R1 @hal ?_)
  obtain ⟨M1, hM1⟩ : ∃ M1, M1 = M.push (.cells false s1 zeroExt) := ⟨_, rfl⟩
  have hg1 : M1.get M.size = some (.cells false s1 zeroExt) := by rw [hM1, Mem.get_push_new]
  have ho1 : Only [] M M1 := by rw [hM1]; exact Only.push _ _ _
  have hs1 : M1.size = M.size + 1 := by rw [hM1, Mem.size_push]
  rw [← hM1]
  clear hM1
  refine CW_seq (R0 ?_)
  refine K0 (cutPrefix_spec (str s) _ _) ?_
  refine CW_seq (CW_block (CW_seq (R0 ?_)))
  refine ⟨by kernel_rfl, _, trim_spec (str s) 0 (by decide) (by show s.length ≤ _; omega) _, ?_⟩
  rintro _ M9 ⟨rfl, e9⟩; replace e9 := e9.symm; subst e9
  have h0' : Lib.trimB (str s).data.toList 0 = [] := h0
  rw [h0']
  refine S1 @beq_nilS ?_
  refine CT (CW_seq (CW_region ?_))
  have hput : putIn 8 M1 M.size 0 zeroExt (M1.get M.size) = some (M1.set M.size (some (.cells false s1 zeroExt))) := by rw [hg1]; rfl
  have hgs : (M1.set M.size (some (.cells false s1 zeroExt))).get M.size = some (.cells false s1 zeroExt) := Mem.get_set_same hg1 _
  have hrow : rowIn 8 0 (some (.cells false s1 zeroExt)) = some (.agg zeroExt.toArray) := rfl
  refine S3 @bd_Ext0 @agg_cells @hput ?_
  refine T3 @aLoad_g @hgs @hrow ?_
  exact ⟨_, Thin.refl _, ho1.setNew (Nat.le_refl _) _, by rw [Mem.size_set, hs1]; omega⟩
theorem jblank_spec (M : Mem) (s : List UInt8) (hs : s.length ≤ 1000000) :
    Abs.Spec Tryz.prog 153 [.string (str s)] M fun u M' => u = .bool (decide (trim0 s = [])) ∧ M' = M := by
  refine WMx Tryz.func153 Tryz.results153 Tryz.ntmps153 fun hc hx k => ?_
  refine CW_seq (R0 ?_)
  refine CW_seq (R0 ?_)
  refine K1 @beq_nilS (trim_spec (str s) 0 (by decide) (by show s.length ≤ _; omega) _) ?_
  refine T0 ?_
  exact ⟨_, Thin.refl _, rfl, rfl⟩
set_option maxRecDepth 100000 in
set_option maxHeartbeats 2000000 in
theorem jtake_blank (M : Mem) (s : List UInt8) (hs : s.length = 256) (h0 : trim0 s = []) :
    Abs.Spec Tryz.prog 93 [.string (str s)] M fun u M' => u = .tuple #[.agg zeroRec.toArray, .int .i64 8] ∧ Only [] M M' ∧ M.size ≤ M'.size := by
  refine WMx Tryz.func93 Tryz.results93 Tryz.ntmps93 fun hc hx k => ?_
  have hal : nAlloc Tryz.prog 203 = some (.cells false (aStride Tryz.prog 203) zeroRec) := al_Rec
  generalize aStride Tryz.prog 203 = s1 at hal
  refine CW_seq (R1 @hal ?_)
  obtain ⟨M1, hM1⟩ : ∃ M1, M1 = M.push (.cells false s1 zeroRec) := ⟨_, rfl⟩
  have hg1 : M1.get M.size = some (.cells false s1 zeroRec) := by rw [hM1, Mem.get_push_new]
  have ho1 : Only [] M M1 := by rw [hM1]; exact Only.push _ _ _
  have hs1 : M1.size = M.size + 1 := by rw [hM1, Mem.size_push]
  rw [← hM1]
  clear hM1
  refine CW_seq (CW_block (CW_seq (R0 ?_)))
  refine ⟨by kernel_rfl, _, jblank_spec _ s (by omega), ?_⟩
  rintro _ M9 ⟨rfl, e9⟩; replace e9 := e9.symm; subst e9
  rw [h0]
  refine S0 ?_
  refine CT (CW_seq (CW_region ?_))
  have hput : putIn 13 M1 M.size 0 zeroRec (M1.get M.size) = some (M1.set M.size (some (.cells false s1 zeroRec))) := by rw [hg1]; rfl
  have hgs : (M1.set M.size (some (.cells false s1 zeroRec))).get M.size = some (.cells false s1 zeroRec) := Mem.get_set_same hg1 _
  have hrow : rowIn 13 0 (some (.cells false s1 zeroRec)) = some (.agg zeroRec.toArray) := rfl
  refine S3 @bd_Rec0 @agg_cells @hput ?_
  refine T3 @aLoad_g @hgs @hrow ?_
  exact ⟨_, Thin.refl _, ho1.setNew (Nat.le_refl _) _, by rw [Mem.size_set, hs1]; omega⟩
end Go.Proofs.YtfdijpacbhomjaaGreatDoor
namespace Go.Proofs.YtfdijpacbhomjaaGreatDoor
open Go.RowKit Abs
structure BlankD (d : Dsk) (e : Int) : Prop where
  ok : d.Ok
  live : d.dead = false
  zeros : ∀ i, 1 ≤ i → i < d.old.length → d.sector i = List.replicate 256 0
  epoch : d.lastE 0 = (e, 0)
  pos : 0 ≤ e ∧ e ≤ 4294967295
theorem BlankD.may {d : Dsk} {e : Int} (h : BlankD d e) {i : Nat} (hi : i < d.old.length) : d.may (i : Int) = 0 := by
  unfold Dsk.may
  rw [if_neg (by rw [h.live]; simp), if_neg (by omega)]
theorem BlankD.trim {d : Dsk} {e : Int} (h : BlankD d e) {i : Nat} (h1 : 1 ≤ i) (hi : i < d.old.length) : (d.sector i).length = 256 ∧ trim0 (d.sector i) = [] := by
  rw [h.zeros i h1 hi]; exact ⟨List.length_replicate, trim_zero⟩
end Go.Proofs.YtfdijpacbhomjaaGreatDoor
namespace Go.Proofs.YtfdijpacbhomjaaGreatDoor
open Go.RowKit Abs
theorem push_set (m : Mem) (x y : Blk) : (m.push x).set m.size (some y) = m.push y := by
  unfold Mem.push Mem.set Mem.size
  simp
end Go.Proofs.YtfdijpacbhomjaaGreatDoor
namespace Go.Proofs.YtfdijpacbhomjaaGreatDoor
open Go.RowKit Abs
def opC (p : Nat) (key : ByteArray) (e : Int) : List Value := [dp p, .string key, .int .i64 e, .pointer none, .pointer none, .pointer none, .pointer none, .pointer none, .pointer none, .pointer none, .pointer none, .pointer none, .pointer none, .pointer none, .pointer none, .int .i64 0]
theorem open_small (M : Mem) (p q g : Nat) (d : Dsk) (hd : DskAt M p q g d) (secret : ByteArray) (hn : d.old.length < 13) :
    Abs.Spec Tryz.prog 50 [dp p, .string secret] M fun u M' => u = .tuple #[.pointer none, .int .i64 1] ∧ M' = M := by
  refine Abs.Spec.walkM Tryz.func50 (by rfl) _ Tryz.results50 _ Tryz.ntmps50 (by simp [dp]) ?_
  intro hc hx k
  refine CW_seq (R0 ?_)
  refine CW_seq (CW_seq (R0 ?_))
  refine K0 (dlen_spec M p q g d hd) ?_
  refine CC (decide ((d.old.length : Int) < 13)) (fun h => CW_seq (CW_region ?_)) (fun h => absurd (of_decide_eq_false h) (by omega))
  refine S0 ?_
  refine T0 ?_
  exact ⟨M, Thin.refl _, rfl⟩
set_option maxRecDepth 100000 in
set_option maxHeartbeats 4000000 in
theorem open_blank (M : Mem) (p q g : Nat) (d : Dsk) (e : Int) (hb : BlankD d e) (hd : DskAt M p q g d) (secret : ByteArray) (hsec : secret.size ≤ 1000000) (hn : 13 ≤ d.old.length) (hnx : (d.nextE 0).2.2 = 0) :
    Abs.Spec Tryz.prog 50 [dp p, .string secret] M fun u M' => ∃ dep, u = .tuple #[dp dep, .int .i64 0] ∧ (∃ s, M'.get dep = some (.cells false s (opC p (str (Sha.headKey secret.data.toList)) (d.nextE 0).2.1))) ∧ M.size ≤ dep ∧ DskAt M' p q g (d.nextE 0).1 ∧ Only [p, q, g] M M' ∧ M.size ≤ M'.size := by
  refine Abs.Spec.walkM Tryz.func50 (by rfl) _ Tryz.results50 _ Tryz.ntmps50 (by simp [dp]) ?_
  intro hc hx k
  have hN := hb.ok.n
  have hpl : p < M.size := by obtain ⟨s, h⟩ := hd.row; exact get_live h
  have hql : q < M.size := get_live hd.kv
  have hgl0 : g < M.size := get_live hd.old
  have hdp : dp p = .pointer (some ⟨p, 0, none⟩) := rfl
  refine CW_seq (R0 ?_)
  refine CW_seq (CW_seq (R0 ?_))
  refine K0 (dlen_spec M p q g d hd) ?_
  refine CC (decide ((d.old.length : Int) < 13)) (fun h => absurd (of_decide_eq_true h) (by omega)) (fun h => CW_skip ?_)
  refine S0 ?_
  refine CW_seq (R0 ?_)
  refine ⟨by kernel_rfl, _, keys_spec secret _ (by omega) (by decide) M, ?_⟩
  rintro _ M9 ⟨rfl, e9⟩; replace e9 := e9.symm; subst e9
  obtain ⟨key, hkey⟩ : ∃ key, key = str (Sha.headKey secret.data.toList) := ⟨_, rfl⟩
  rw [← hkey]
  have hkv : keysV secret.data.toList (⟨#[]⟩ : ByteArray).data.toList = .agg #[.string (str (Sha.encKey secret.data.toList [])), .string (str (Sha.macKey secret.data.toList [])), .string key] := by rw [hkey]; rfl
  rw [hkv]
  have hfld : vField Tryz.prog 196 (some (.agg #[.string (str (Sha.encKey secret.data.toList [])), .string (str (Sha.macKey secret.data.toList [])), .string key])) 2 = some (.string key) := by rfl
  have hbd : aBuild Tryz.prog 153 [(0, .pointer (some ⟨p, 0, none⟩)), (1, .string key)] = some (.agg (opC p key 0).toArray) := by kernel_rfl
  have hbx : nBox Tryz.prog 153 (.agg (opC p key 0).toArray) = some (.cells false (aStride Tryz.prog 153) (opC p key 0)) := bx_Dep _ rfl
  generalize aStride Tryz.prog 153 = s1 at hbx
  refine S4 @hfld @hdp @hbd @hbx ?_
  obtain ⟨M2, hM2⟩ : ∃ M2, M2 = M.push (.cells false s1 (opC p key 0)) := ⟨_, rfl⟩
  obtain ⟨dep, hdep⟩ : ∃ dep, dep = M.size := ⟨_, rfl⟩
  have hg2 : M2.get dep = some (.cells false s1 (opC p key 0)) := by rw [hM2, hdep, Mem.get_push_new]
  have ho2 : Only [] M M2 := by rw [hM2]; exact Only.push _ _ _
  have hs2 : M2.size = M.size + 1 := by rw [hM2, Mem.size_push]
  rw [← hM2, ← hdep]
  have hd2 : DskAt M2 p q g d := hd.only ho2 (by simp) (by simp) (by simp)
  have hloop : ∀ M', Only [] M2 M' → DskAt M' p q g d ∧ M'.get dep = some (.cells false s1 (opC p key 0)) := fun M' ho => ⟨hd2.only ho (by simp) (by simp) (by simp), ho _ _ (by simp) hg2⟩
  refine CW_seq (CW_seq (R0 ?_))
  refine CW_block (MW_loop (fun j f M' => ∃ i : Nat, j = 8 - i ∧ i ≤ 8 ∧ f = [(0, .pointer (some ⟨p, 0, none⟩)), (6, .pointer (some ⟨dep, 0, none⟩)), (29, .int .i64 (i : Nat))] ∧ Only [] M2 M' ∧ M2.size ≤ M'.size) 8 ?_ ?_)
  · refine JK [0, 6, 29] ?_
    exact ⟨M2, Thin.refl _, 0, rfl, by omega, rfl, Only.refl _ _, Nat.le_refl _⟩
  · rintro j f M' ⟨i, rfl, hi8, rfl, ho, hss⟩
    obtain ⟨hd', hg'⟩ := hloop M' ho
    refine CW_seq (R0 ?_)
    refine CW_seq (CC (decide ((i : Int) < 8)) (fun h => CW_skip ?_) (fun h => CW_exit ?_))
    · have h := of_decide_eq_true h
      have hi : i < 8 := by omega
      have w1 : IntKind.i64.wrap (5 + (i : Int)) = ((5 + i : Nat) : Int) := by rw [wri (by omega) (by omega)]; omega
      have w2 : IntKind.i64.wrap ((i : Int) + 1) = ((i + 1 : Nat) : Int) := by rw [wri (by omega) (by omega)]; omega
      have htr := hb.trim (i := 5 + i) (by omega) (by omega)
      have hrd : d.read ((5 + i : Nat) : Int) = (d.sector (5 + i), 0) := by unfold Dsk.read; rw [if_pos (hb.may (by omega))]; rfl
      simp only [zZ, reduceIte, Nat.reduceLT, Int.reduceToNat, Int.reduceLE, Int.reduceEq, Int.reduceLT, Nat.reduceEqDiff, Nat.reduceAdd]
      refine CW_seq (CW_block (CW_seq (R0 ?_)))
      refine CW_seq (R1 @w1 ?_)
      refine ⟨by kernel_rfl, _, read_spec M' p q g d hd' ((5 + i : Nat) : Int), ?_⟩
      rintro _ M9 ⟨rfl, e9⟩; replace e9 := e9.symm; subst e9
      rw [hrd]
      refine S0 ?_
      refine CW_seq (CW_seq (R0 ?_))
      refine CF (CW_skip ?_)
      refine S0 ?_
      refine CW_seq (R0 ?_)
      refine ⟨by kernel_rfl, _, ctake_blank M' _ htr.1 htr.2, ?_⟩
      rintro _ M3 ⟨rfl, ho3, hs3⟩
      have hal : nAlloc Tryz.prog 155 = some (.cells false (aStride Tryz.prog 155) zeroExt) := al_Ext
      generalize aStride Tryz.prog 155 = s2 at hal
      have hput : putIn 8 (M3.push (.cells false s2 zeroExt)) M3.size 0 zeroExt ((M3.push (.cells false s2 zeroExt)).get M3.size) = some (M3.push (.cells false s2 zeroExt)) := by
        rw [Mem.get_push_new]
        simp only [putIn]
        rw [if_pos ⟨rfl, by decide, rfl⟩]
        congr 1
        exact push_set _ _ _
      refine S3 @hal @agg_cells @hput ?_
      obtain ⟨M4, hM4⟩ : ∃ M4, M4 = M3.push (.cells false s2 zeroExt) := ⟨_, rfl⟩
      have ho4 : Only [] M2 M4 := ho.trans (ho3.trans (by rw [hM4]; exact Only.push _ _ _))
      have hs4 : M4.size = M3.size + 1 := by rw [hM4, Mem.size_push]
      rw [← hM4]
      have q1 : ((8 : Int) == 0) = false := rfl
      refine CW_seq (R1 @q1 ?_)
      refine CF (CW_skip ?_)
      refine S0 ?_
      refine R1 @w2 ?_
      refine JK [0, 6, 29] ?_
      exact ⟨M4, Thin.refl _, 8 - (i + 1), ⟨i + 1, rfl, by omega, rfl, ho4, by omega⟩, by omega⟩
    · refine S0 ?_
      refine CW_seq (CW_seq (R0 ?_))
      obtain ⟨M6, hM6⟩ : ∃ M6, M6 = M' := ⟨_, rfl⟩
      rw [← hM6] at ho hss ⊢
      clear hd' hg' hM6 M'
      refine CW_block (MW_loop (fun j f M' => ∃ i : Nat, j = 4 - i ∧ i ≤ 4 ∧ f = [(0, .pointer (some ⟨p, 0, none⟩)), (6, .pointer (some ⟨dep, 0, none⟩)), (60, .int .i64 (i : Nat))] ∧ Only [] M2 M' ∧ M2.size ≤ M'.size) 4 ?_ ?_)
      · refine JK [0, 6, 60] ?_
        exact ⟨M6, Thin.refl _, 0, rfl, by omega, rfl, ho, hss⟩
      · clear ho hss
        rintro j f M' ⟨i, rfl, hi8', rfl, ho, hss⟩
        obtain ⟨hd', hg'⟩ := hloop M' ho
        refine CW_seq (R0 ?_)
        refine CW_seq (CC (decide ((i : Int) < 4)) (fun h => CW_skip ?_) (fun h => CW_exit ?_))
        · have h := of_decide_eq_true h
          have hi : i < 4 := by omega
          have w1 : IntKind.i64.wrap (1 + (i : Int)) = ((1 + i : Nat) : Int) := by rw [wri (by omega) (by omega)]; omega
          have w2 : IntKind.i64.wrap ((i : Int) + 1) = ((i + 1 : Nat) : Int) := by rw [wri (by omega) (by omega)]; omega
          have htr := hb.trim (i := 1 + i) (by omega) (by omega)
          have hrd : d.read ((1 + i : Nat) : Int) = (d.sector (1 + i), 0) := by unfold Dsk.read; rw [if_pos (hb.may (by omega))]; rfl
          simp only [zZ, reduceIte, Nat.reduceLT, Int.reduceToNat, Int.reduceLE, Int.reduceEq, Int.reduceLT, Nat.reduceEqDiff, Nat.reduceAdd]
          refine CW_seq (CW_block (CW_seq (R0 ?_)))
          refine CW_seq (R1 @w1 ?_)
          refine ⟨by kernel_rfl, _, read_spec M' p q g d hd' ((1 + i : Nat) : Int), ?_⟩
          rintro _ M9 ⟨rfl, e9⟩; replace e9 := e9.symm; subst e9
          rw [hrd]
          refine S0 ?_
          refine CW_seq (CW_seq (R0 ?_))
          refine CF (CW_skip ?_)
          refine S0 ?_
          refine CW_seq (R0 ?_)
          refine ⟨by kernel_rfl, _, jtake_blank M' _ htr.1 htr.2, ?_⟩
          rintro _ M3 ⟨rfl, ho3, hs3⟩
          have hal : nAlloc Tryz.prog 203 = some (.cells false (aStride Tryz.prog 203) zeroRec) := al_Rec
          generalize aStride Tryz.prog 203 = s2 at hal
          have hput : putIn 13 (M3.push (.cells false s2 zeroRec)) M3.size 0 zeroRec ((M3.push (.cells false s2 zeroRec)).get M3.size) = some (M3.push (.cells false s2 zeroRec)) := by
            rw [Mem.get_push_new]
            simp only [putIn]
            rw [if_pos ⟨rfl, by decide, rfl⟩]
            congr 1
            exact push_set _ _ _
          refine S3 @hal @agg_cells @hput ?_
          obtain ⟨M4, hM4⟩ : ∃ M4, M4 = M3.push (.cells false s2 zeroRec) := ⟨_, rfl⟩
          have ho4 : Only [] M2 M4 := ho.trans (ho3.trans (by rw [hM4]; exact Only.push _ _ _))
          have hs4 : M4.size = M3.size + 1 := by rw [hM4, Mem.size_push]
          rw [← hM4]
          have q1 : ((8 : Int) == 0) = false := rfl
          have q2 : ((8 : Int) != 8) = false := rfl
          refine CW_seq (R1 @q1 ?_)
          refine CF (CW_seq (R1 @q2 ?_))
          refine CF (CW_skip ?_)
          refine S0 ?_
          refine R1 @w2 ?_
          refine JK [0, 6, 60] ?_
          exact ⟨M4, Thin.refl _, 4 - (i + 1), ⟨i + 1, rfl, by omega, rfl, ho4, by omega⟩, by omega⟩
        · refine S0 ?_
          refine CW_seq (R0 ?_)
          refine ⟨by kernel_rfl, _, next_spec M' p q g d hd' 0, ?_⟩
          rintro _ M7 ⟨rfl, hd7, ho7, hs7⟩
          rw [hnx]
          refine S0 ?_
          refine CW_seq (CW_seq (R0 ?_))
          refine CF (CW_skip ?_)
          refine S0 ?_
          have hg7 : M7.get dep = some (.cells false s1 (opC p key 0)) := ho7 _ _ (by simp; omega) hg'
          have hg7' := hg7
          unfold opC at hg7
          refine CW_seq (R1 @hg7 ?_)
          refine CW_seq (R0 ?_)
          refine T0 ?_
          refine ⟨_, Thin.refl _, dep, rfl, ⟨s1, Mem.get_set_same hg7' _⟩, by omega, hd7.only (Only.set (l := [dep]) (by simp) _) (by simp; omega) (by simp; omega) (by simp; omega), ?_, by rw [Mem.size_set]; omega⟩
          intro b x hbn hbx
          have := get_live hbx
          rw [Mem.get_set_ne (by omega)]
          exact ho7 b x hbn (ho b x (by simp) (ho2 b x (by simp) hbx))
end Go.Proofs.YtfdijpacbhomjaaGreatDoor
namespace Go.Proofs.YtfdijpacbhomjaaGreatDoor
open Go.RowKit Abs
theorem mk_SS (m : Mem) (n : Nat) (hn : n ≤ 1000000) : aMakeSlice Tryz.prog m 36 (.int .i64 (n : Nat)) (.int .i64 (n : Nat)) = some (.slice (some ⟨m.size, 0, none⟩) n n, m.push (.cells false 1 (List.replicate n (.string ⟨#[]⟩)))) := by
  have hz : Tryz.t9.zero = some (.string ⟨#[]⟩) := rfl
  have hb : Tryz.t9.bytes ≤ 100 := by decide
  have hs : Tryz.t9.size = 1 := rfl
  unfold aMakeSlice
  simp only [Tryz.underlying36, inf_Str, hz, hs]
  have hc : ((Tryz.t9.bytes : Nat) : Int) * ((n : Nat) : Int) ≤ 281474976710656 := by
    have : Tryz.t9.bytes * n ≤ 100 * 1000000 := Nat.mul_le_mul hb hn
    rw [← Int.natCast_mul]; omega
  rw [if_pos ⟨rfl, by decide, rfl, by omega, Int.le_refl _, hc, by omega⟩]
  simp only [Int.toNat_natCast, Nat.mul_one]
  rfl
theorem copy_SS {m : Mem} {b o dl dc b2 o2 n nc s2 : Nat} {r2 : Bool} {cs cs2 : List Value} (hb : m.get b = some (.cells false 1 cs)) (hb2 : m.get b2 = some (.cells r2 s2 cs2)) (h1 : o2 + min n dl ≤ cs2.length) (h2 : o + min n dl ≤ cs.length) :
    aCopy Tryz.prog m 36 36 (.slice (some ⟨b, o, none⟩) dl dc) (.slice (some ⟨b2, o2, none⟩) n nc) = some (.int .i64 (min n dl : Nat), m.set b (some (.cells false 1 (setL cs o ((cs2.drop o2).take (min n dl)))))) := by
  have hs : Tryz.t9.size = 1 := rfl
  unfold aCopy
  simp only [Tryz.underlying36, inf_Str, hs, hb, hb2, Nat.mul_one]
  rw [if_pos ⟨h1, h2⟩]
theorem sl_SS {get : Nat → Option Blk} {b len cap : Nat} {ro : Bool} {cs : List Value} (hb : get b = some (.cells ro 1 cs)) (l : Nat) (h1 : l ≤ len) :
    gSlice Tryz.prog get 36 (.slice (some ⟨b, 0, none⟩) len cap) (some (.int .i64 (l : Nat))) none = some (.slice (some ⟨b, l, none⟩) (len - l) (cap - l)) := by
  have hs : Tryz.t9.size = 1 := rfl
  have hc : (0 : Int) ≤ (l : Int) ∧ (l : Int) ≤ (len : Int) := by omega
  unfold gSlice aBound
  simp only [Tryz.underlying36, inf_Str, hs, hb, if_pos hc, if_true, Nat.mul_one, Nat.zero_add, Int.toNat_natCast]
theorem sl_SS2 {get : Nat → Option Blk} {b len cap : Nat} {ro : Bool} {cs : List Value} (hb : get b = some (.cells ro 1 cs)) (h : Nat) (h1 : h ≤ cap) :
    gSlice Tryz.prog get 36 (.slice (some ⟨b, 0, none⟩) len cap) none (some (.int .i64 (h : Nat))) = some (.slice (some ⟨b, 0, none⟩) h cap) := by
  have hs : Tryz.t9.size = 1 := rfl
  have hc : (0 : Int) ≤ (h : Int) ∧ (h : Int) ≤ (cap : Int) := by omega
  unfold gSlice aBound
  simp only [Tryz.underlying36, inf_Str, hs, hb, if_pos hc, if_true, Nat.mul_one, Nat.zero_add, Int.toNat_natCast, Nat.sub_zero]
theorem setL_mid : ∀ (a b c : List Value), b.length ≤ c.length → setL (a ++ c) a.length b = a ++ b ++ c.drop b.length
  | [], [], c, _ => by simp [setL]
  | a, x :: b, [], h => by simp at h
  | a, [], c, _ => by simp [setL]
  | a, x :: b, y :: c, h => by
    have ih := setL_mid (a ++ [x]) b c (by simpa using h)
    rw [setL]
    have e : (a ++ y :: c).set a.length x = (a ++ [x]) ++ c := by simp
    rw [e]
    simp only [List.length_append, List.length_cons, List.length_nil] at ih
    rw [ih]
    simp
set_option maxRecDepth 100000 in
set_option maxHeartbeats 2000000 in
theorem repeatS_spec (M : Mem) (b : Nat) (s : ByteArray) (n : Nat) (hn : 1 ≤ n) (hn2 : n ≤ 100000) (ro : Bool) (st : Nat) (hb : M.get b = some (.cells ro st [.string s])) :
    Abs.Spec Tryz.prog 49 [.slice (some ⟨b, 0, none⟩) 1 1, .int .i64 (n : Nat)] M fun u M' => u = .slice (some ⟨M.size, 0, none⟩) n n ∧ M' = M.push (.cells false 1 (List.replicate n (.string s))) := by
  refine Abs.Spec.walkM Tryz.func49 (by rfl) _ Tryz.results49 _ Tryz.ntmps49 (by simp) ?_
  intro hc hx k
  refine CW_seq (CW_region ?_)
  simp only [zZ, reduceIte, Nat.reduceLT, Int.reduceToNat, Int.reduceLE, Int.reduceEq, Int.reduceLT, Nat.reduceEqDiff, Nat.reduceAdd, zDk, pd_eql, pd_neq, pd_eql0, pd_neq0, Tryz.underlying182, Tryz.underlying101]
  refine CW_seq (CW_seq (CW_region ?_))
  simp only [zZ, reduceIte, Nat.reduceLT, Int.reduceToNat, Int.reduceLE, Int.reduceEq, Int.reduceLT, Nat.reduceEqDiff, Nat.reduceAdd, zDk, pd_eql, pd_neq, pd_eql0, pd_neq0, Tryz.underlying182, Tryz.underlying101]
  refine CW_cond (decide ((n : Int) < 0)) (by rfl) (fun h => absurd (of_decide_eq_true h) (by omega)) (fun _ => CW_skip ?_)
  simp only [zZ, reduceIte, Nat.reduceLT, Int.reduceToNat, Int.reduceLE, Int.reduceEq, Int.reduceLT, Nat.reduceEqDiff, Nat.reduceAdd, zDk, pd_eql, pd_neq, pd_eql0, pd_neq0, Tryz.underlying182, Tryz.underlying101]
  refine CW_seq (CW_region ?_)
  have w1 : IntKind.u64.wrap ((1 : Nat) : Int) = ((1 : Nat) : Int) := by decide
  have w2 : IntKind.u64.wrap (n : Int) = ((n : Nat) : Int) := by unfold IntKind.wrap; simp [IntKind.bits, IntKind.signed]; omega
  have hmul := fun m => mul_spec 1 n (by omega) (by omega) m
  rw [show 1 * n / 18446744073709551616 = 0 by omega, show 1 * n % 18446744073709551616 = n by omega] at hmul
  simp only [zZ, reduceIte, Nat.reduceLT, Int.reduceToNat, Int.reduceLE, Int.reduceEq, Int.reduceLT, Nat.reduceEqDiff, Nat.reduceAdd, zDk, pd_eql, pd_neq, pd_eql0, pd_neq0, Tryz.underlying182, Tryz.underlying101, w1, w2]
  refine ⟨by kernel_rfl, _, hmul _, ?_⟩
  rintro _ M9 ⟨rfl, e9⟩; replace e9 := e9.symm; subst e9
  have q1 : decide (((0 : Nat) : Int) > 0) = false := rfl
  have q2 : decide ((n : Int) > 9223372036854775807) = false := decide_eq_false (by omega)
  simp only [zZ, reduceIte, Nat.reduceLT, Int.reduceToNat, Int.reduceLE, Int.reduceEq, Int.reduceLT, Nat.reduceEqDiff, Nat.reduceAdd, zDk, pd_eql, pd_neq, pd_eql0, pd_neq0, Tryz.underlying182, Tryz.underlying101]
  refine CW_seq (CW_seq (CW_region ?_))
  simp only [zZ, reduceIte, Nat.reduceLT, Int.reduceToNat, Int.reduceLE, Int.reduceEq, Int.reduceLT, Nat.reduceEqDiff, Nat.reduceAdd, zDk, pd_eql, pd_neq, pd_eql0, pd_neq0, Tryz.underlying182, Tryz.underlying101, q1, q2]
  refine CW_cond false (by rfl) (fun h => by cases h) (fun _ => CW_skip ?_)
  simp only [zZ, reduceIte, Nat.reduceLT, Int.reduceToNat, Int.reduceLE, Int.reduceEq, Int.reduceLT, Nat.reduceEqDiff, Nat.reduceAdd, zDk, pd_eql, pd_neq, pd_eql0, pd_neq0, Tryz.underlying182, Tryz.underlying101]
  have w3 : IntKind.i64.wrap ((n : Nat) : Int) = ((n : Nat) : Int) := wri (by omega) (by omega)
  refine CW_seq (CW_region ?_)
  simp only [zZ, reduceIte, Nat.reduceLT, Int.reduceToNat, Int.reduceLE, Int.reduceEq, Int.reduceLT, Nat.reduceEqDiff, Nat.reduceAdd, zDk, pd_eql, pd_neq, pd_eql0, pd_neq0, Tryz.underlying182, Tryz.underlying101, w3, mk_SS M n (by omega)]
  obtain ⟨M1, hM1⟩ : ∃ M1, M1 = M.push (.cells false 1 (List.replicate n (.string ⟨#[]⟩))) := ⟨_, rfl⟩
  obtain ⟨g, hg⟩ : ∃ g, g = M.size := ⟨_, rfl⟩
  have hg1 : M1.get g = some (.cells false 1 (List.replicate n (.string ⟨#[]⟩))) := by rw [hM1, hg, Mem.get_push_new]
  have hb1 : M1.get b = some (.cells ro st [.string s]) := by rw [hM1, Mem.get_push_old (get_live hb)]; exact hb
  rw [← hM1, ← hg]
  have hcp := copy_SS (o := 0) (dl := n) (dc := n) (o2 := 0) (n := 1) (nc := 1) hg1 hb1 (by simp; omega) (by simp; omega)
  rw [show min 1 n = 1 by omega] at hcp
  refine CW_seq (CW_region ?_)
  simp only [zZ, reduceIte, Nat.reduceLT, Int.reduceToNat, Int.reduceLE, Int.reduceEq, Int.reduceLT, Nat.reduceEqDiff, Nat.reduceAdd, zDk, pd_eql, pd_neq, pd_eql0, pd_neq0, Tryz.underlying182, Tryz.underlying101, hcp]
  refine CW_seq (CW_block (MW_loop (fun j f M' => ∃ c : Nat, 1 ≤ c ∧ c ≤ n ∧ j = n - c ∧ f = [(7, .slice (some ⟨g, 0, none⟩) n n), (8, .int .i64 (c : Nat))] ∧
    M' = M.push (.cells false 1 (List.replicate c (.string s) ++ List.replicate (n - c) (.string ⟨#[]⟩)))) (n - 1) ?_ ?_))
  · refine ⟨[7, 8], ?_⟩
    simp only [zZ, reduceIte, Nat.reduceLT, Int.reduceToNat, Int.reduceLE, Int.reduceEq, Int.reduceLT, Nat.reduceEqDiff, Nat.reduceAdd, keepF]
    refine ⟨_, Thin.refl _, 1, Nat.le_refl _, hn, rfl, rfl, ?_⟩
    rw [hM1, hg, push_set]
    congr 2
    obtain ⟨k, rfl⟩ : ∃ k, n = k + 1 := ⟨n - 1, by omega⟩
    rfl
  · rintro j f M' ⟨c, hc1, hc2, rfl, rfl, hM'⟩
    refine CW_seq (CW_seq (CW_region ?_))
    simp only [zZ, reduceIte, Nat.reduceLT, Int.reduceToNat, Int.reduceLE, Int.reduceEq, Int.reduceLT, Nat.reduceEqDiff, Nat.reduceAdd, zDk, pd_eql, pd_neq, pd_eql0, pd_neq0, Tryz.underlying182, Tryz.underlying101]
    refine CW_cond (decide ((c : Int) < (n : Int))) (by rfl) (fun h => CW_skip ?_) (fun h => CW_exit ?_)
    · have h := of_decide_eq_true h
      simp only [zZ, reduceIte, Nat.reduceLT, Int.reduceToNat, Int.reduceLE, Int.reduceEq, Int.reduceLT, Nat.reduceEqDiff, Nat.reduceAdd]
      refine CW_block (CW_draw2 hmix 7 (by kernel_rfl) ?_)
      have hg' : M'.get g = some (.cells false 1 (List.replicate c (.string s) ++ List.replicate (n - c) (.string ⟨#[]⟩))) := by rw [hM', hg, Mem.get_push_new]
      have hcp2 := copy_SS (o := c) (dl := n - c) (dc := n - c) (o2 := 0) (n := c) (nc := n) hg' hg' (by simp; omega) (by simp; omega)
      have w5 : IntKind.i64.wrap ((c : Int) + ((min c (n - c) : Nat) : Int)) = ((c + min c (n - c) : Nat) : Int) := by rw [wri (by omega) (by omega)]; omega
      simp only [zZ, reduceIte, Nat.reduceLT, Int.reduceToNat, Int.reduceLE, Int.reduceEq, Int.reduceLT, Nat.reduceEqDiff, Nat.reduceAdd, zDk, pd_eql, pd_neq, pd_eql0, pd_neq0, Tryz.underlying182, Tryz.underlying101, sl_SS hg' c hc2, sl_SS2 hg' c hc2, hcp2, w5]
      refine ⟨[7, 8], ?_⟩
      simp only [zZ, reduceIte, Nat.reduceLT, Int.reduceToNat, Int.reduceLE, Int.reduceEq, Int.reduceLT, Nat.reduceEqDiff, Nat.reduceAdd, keepF]
      refine ⟨_, Thin.refl _, n - (c + min c (n - c)), ⟨c + min c (n - c), by omega, by omega, rfl, rfl, ?_⟩, by omega⟩
      rw [hM', hg, push_set]
      congr 2
      have e1 : (List.replicate c (Value.string s) ++ List.replicate (n - c) (Value.string ⟨#[]⟩)).take (min c (n - c)) = List.replicate (min c (n - c)) (Value.string s) := by
        rw [List.take_append_of_le_length (by simp; omega), List.take_replicate]
        congr 1; omega
      have e2 := setL_mid (List.replicate c (Value.string s)) (List.replicate (min c (n - c)) (Value.string s)) (List.replicate (n - c) (Value.string ⟨#[]⟩)) (by simp; omega)
      rw [List.length_replicate] at e2
      rw [e1, e2, List.replicate_append_replicate, List.length_replicate, List.drop_replicate]
      congr 2
      omega
    · have h := of_decide_eq_false h
      have hcn : c = n := by omega
      subst hcn
      simp only [zZ, reduceIte, Nat.reduceLT, Int.reduceToNat, Int.reduceLE, Int.reduceEq, Int.reduceLT, Nat.reduceEqDiff, Nat.reduceAdd]
      refine CW_seq (CW_region ?_)
      simp only [zZ, reduceIte, Nat.reduceLT, Int.reduceToNat, Int.reduceLE, Int.reduceEq, Int.reduceLT, Nat.reduceEqDiff, Nat.reduceAdd, zDk, pd_eql, pd_neq, pd_eql0, pd_neq0, Tryz.underlying182, Tryz.underlying101]
      refine CW_ret ?_
      simp only [zZ, reduceIte, Nat.reduceLT, Int.reduceToNat, Int.reduceLE, Int.reduceEq, Int.reduceLT, Nat.reduceEqDiff, Nat.reduceAdd, zDk, pd_eql, pd_neq, pd_eql0, pd_neq0, Tryz.underlying182, Tryz.underlying101, mEnd, sAnswer, sAnswer.sRes]
      refine ⟨M', Thin.refl _, ?_⟩
      rw [hM']
      simp
def zeroS : List UInt8 := List.replicate 256 0
def newDsk (n : Nat) : Dsk := ⟨List.replicate n zeroS, [], 0, -1, false⟩
theorem newDsk_ok (n : Nat) (h1 : 1 ≤ n) (h2 : n ≤ 1024) : (newDsk n).Ok :=
  ⟨by simpa [newDsk] using h2, by simp [newDsk]; omega, fun s hs => by simp only [newDsk, List.mem_replicate] at hs; rw [hs.2]; exact List.length_replicate, by simp [newDsk], by simp [newDsk], fun x hx => by simp [newDsk] at hx, fun x hx => by simp [newDsk] at hx, by simp [newDsk], trivial⟩
set_option maxRecDepth 100000 in
set_option maxHeartbeats 2000000 in
theorem new_spec (M : Mem) (n : Nat) (h1 : 1 ≤ n) (h2 : n ≤ 1024) :
    Abs.Spec Tryz.prog 21 [.int .i64 (n : Nat)] M fun u M' => ∃ p q g, u = .tuple #[dp p, .int .i64 0] ∧ DskAt M' p q g (newDsk n) ∧ M.size ≤ p ∧ M.size ≤ q ∧ M.size ≤ g ∧ Only [] M M' ∧ M.size ≤ M'.size := by
  refine Abs.Spec.walkM Tryz.func21 (by rfl) _ Tryz.results21 _ Tryz.ntmps21 (by simp) ?_
  intro hc hx k
  have q1 : decide ((n : Int) < 1) = false := decide_eq_false (by omega)
  have q2 : decide ((n : Int) > 1024) = false := decide_eq_false (by omega)
  refine CW_seq (CW_region ?_)
  simp only [zZ, reduceIte, Nat.reduceLT, Int.reduceToNat, Int.reduceLE, Int.reduceEq, Int.reduceLT, Nat.reduceEqDiff, Nat.reduceAdd, zDk, pd_eql, pd_neq, pd_eql0, pd_neq0, Tryz.underlying182, Tryz.underlying101]
  refine CW_seq (CW_seq (CW_region ?_))
  simp only [zZ, reduceIte, Nat.reduceLT, Int.reduceToNat, Int.reduceLE, Int.reduceEq, Int.reduceLT, Nat.reduceEqDiff, Nat.reduceAdd, zDk, pd_eql, pd_neq, pd_eql0, pd_neq0, Tryz.underlying182, Tryz.underlying101, q1, q2]
  refine CW_cond false (by rfl) (fun h => by cases h) (fun _ => CW_skip ?_)
  simp only [zZ, reduceIte, Nat.reduceLT, Int.reduceToNat, Int.reduceLE, Int.reduceEq, Int.reduceLT, Nat.reduceEqDiff, Nat.reduceAdd, zDk, pd_eql, pd_neq, pd_eql0, pd_neq0, Tryz.underlying182, Tryz.underlying101]
  refine CW_seq (CW_region ?_)
  simp only [zZ, reduceIte, Nat.reduceLT, Int.reduceToNat, Int.reduceLE, Int.reduceEq, Int.reduceLT, Nat.reduceEqDiff, Nat.reduceAdd, zDk, pd_eql, pd_neq, pd_eql0, pd_neq0, Tryz.underlying182, Tryz.underlying101]
  refine ⟨by kernel_rfl, _, repeat_spec (str [0]) 256 (by omega) (by show 1 * 256 ≤ _; omega) _, ?_⟩
  rintro _ M9 ⟨rfl, e9⟩; replace e9 := e9.symm; subst e9
  have hrep : str (Lib.repeatL (str [0]).data.toList 256) = str zeroS := by
    show str (Lib.repeatL [0] 256) = _
    rw [rep_zero]; rfl
  rw [hrep]
  simp only [zZ, reduceIte, Nat.reduceLT, Int.reduceToNat, Int.reduceLE, Int.reduceEq, Int.reduceLT, Nat.reduceEqDiff, Nat.reduceAdd, zDk, pd_eql, pd_neq, pd_eql0, pd_neq0, Tryz.underlying182, Tryz.underlying101]
  have hbs : nBuildSlice Tryz.prog 36 1 [(0, .string (str zeroS))] = some (.cells false 1 [.string (str zeroS)]) := by kernel_rfl
  refine CW_seq (CW_region ?_)
  simp only [zZ, reduceIte, Nat.reduceLT, Int.reduceToNat, Int.reduceLE, Int.reduceEq, Int.reduceLT, Nat.reduceEqDiff, Nat.reduceAdd, zDk, pd_eql, pd_neq, pd_eql0, pd_neq0, Tryz.underlying182, Tryz.underlying101, hbs]
  refine ⟨by kernel_rfl, _, repeatS_spec (M.push (.cells false 1 [.string (str zeroS)])) M.size (str zeroS) n h1 (by omega) false 1 (Mem.get_push_new _ _), ?_⟩
  rintro _ M2 ⟨rfl, hM2⟩
  have hs2 : M2.size = M.size + 2 := by rw [hM2]; simp only [Mem.size_push]
  have hold2 : ∀ b x, M.get b = some x → M2.get b = some x := fun b x hb => by
    have := get_live hb
    rw [hM2, Mem.get_push_old (by rw [Mem.size_push]; omega), Mem.get_push_old this]; exact hb
  have hg2 : M2.get (M.size + 1) = some (.cells false 1 (List.replicate n (.string (str zeroS)))) := by
    have := Mem.get_push_new (M.push (.cells false 1 [.string (str zeroS)])) (.cells false 1 (List.replicate n (.string (str zeroS))))
    rw [Mem.size_push] at this
    rw [hM2]; exact this
  have hbx : nBox Tryz.prog 130 (.agg #[.slice (some ⟨M.size + 1, 0, none⟩) n n, .map (some M2.size), .int .i64 (-1), .bool false]) = some (.cells false (aStride Tryz.prog 130) [.slice (some ⟨M.size + 1, 0, none⟩) n n, .map (some M2.size), .int .i64 (-1), .bool false]) := bx_Dsk _ rfl
  generalize aStride Tryz.prog 130 = s1 at hbx
  have hbd : aBuild Tryz.prog 130 [(0, .slice (some ⟨M.size + 1, 0, none⟩) n n), (1, .map (some M2.size)), (2, .int .i64 (-1))] = some (.agg #[.slice (some ⟨M.size + 1, 0, none⟩) n n, .map (some M2.size), .int .i64 (-1), .bool false]) := by kernel_rfl
  simp only [zZ, reduceIte, Nat.reduceLT, Int.reduceToNat, Int.reduceLE, Int.reduceEq, Int.reduceLT, Nat.reduceEqDiff, Nat.reduceAdd, zDk, pd_eql, pd_neq, pd_eql0, pd_neq0, Tryz.underlying182, Tryz.underlying101, Mem.size_push, hbd, hbx]
  refine CW_ret ?_
  simp only [zZ, reduceIte, Nat.reduceLT, Int.reduceToNat, Int.reduceLE, Int.reduceEq, Int.reduceLT, Nat.reduceEqDiff, Nat.reduceAdd, zDk, pd_eql, pd_neq, pd_eql0, pd_neq0, Tryz.underlying182, Tryz.underlying101, mEnd, sAnswer, sAnswer.sRes]
  refine ⟨_, Thin.refl _, M2.size + 1, M2.size, M.size + 1, rfl, ⟨newDsk_ok n h1 h2, ⟨s1, ?_⟩, ?_, ?_, by omega, by omega, by omega⟩, by omega, by omega, by omega, fun b x _ hb => ?_, by simp only [Mem.size_push]; omega⟩
  · have := Mem.get_push_new (M2.push (.kv false [] 0)) (.cells false s1 [.slice (some ⟨M.size + 1, 0, none⟩) n n, .map (some M2.size), .int .i64 (-1), .bool false])
    rw [Mem.size_push] at this
    rw [this]
    simp [dskC, newDsk]
  · rw [Mem.get_push_old (by rw [Mem.size_push]; omega), Mem.get_push_new]; rfl
  · rw [Mem.get_push_old (by rw [Mem.size_push]; omega), Mem.get_push_old (by omega), hg2]
    simp [newDsk]
  · have := get_live hb
    rw [Mem.get_push_old (by rw [Mem.size_push]; omega), Mem.get_push_old (by omega)]
    exact hold2 b x hb
end Go.Proofs.YtfdijpacbhomjaaGreatDoor
namespace Go.Proofs.YtfdijpacbhomjaaGreatDoor
open Go.RowKit Abs
theorem zero_sector (n i : Nat) (hi : i < n) : (newDsk n).sector i = zeroS := by
  unfold Dsk.sector newDsk
  simp only [lastOf, List.find?_nil, Option.map_none, Option.getD_none, List.getElem?_replicate, if_pos hi, Option.getD_some]
theorem last_zero : lastV zeroS = (0, 0) := by decide +kernel
theorem newDsk_blank (n : Nat) (h1 : 1 ≤ n) (h2 : n ≤ 1024) : BlankD (newDsk n) 0 := by
  have hlen : (newDsk n).old.length = n := by simp [newDsk]
  refine ⟨newDsk_ok n h1 h2, rfl, fun i _ hi => zero_sector n i (by omega), ?_, by decide⟩
  have hm : (newDsk n).may 0 = 0 := by
    unfold Dsk.may
    rw [if_neg (by simp [newDsk]), if_neg (by omega)]
  unfold Dsk.lastE
  rw [if_pos hm, zero_sector n _ (by show 0 < n; omega), last_zero]
def opened (n : Nat) : Dsk := ⟨filled (epochText 1) :: List.replicate (n - 1) zeroS, [], 1, -1, false⟩
theorem nextE_new (n : Nat) (h1 : 1 ≤ n) (h2 : n ≤ 1024) : (newDsk n).nextE 0 = (opened n, 1, 0) := by
  have hb := newDsk_blank n h1 h2
  have hlen : (newDsk n).old.length = n := by simp [newDsk]
  have hw : (newDsk n).write 0 (epochText 1) = (((newDsk n).burnt.put 0 (filled (epochText 1))), 0) := by
    have hl : (epochText 1).length = 8 := by decide +kernel
    unfold Dsk.write
    rw [if_neg (by rw [show (newDsk n).may 0 = 0 from hb.may (i := 0) (by omega)]; simp), if_neg (by omega), if_neg (by show ¬ ((-1 : Int) = 0); decide)]
    rfl
  obtain ⟨D, hD⟩ : ∃ D, D = (newDsk n).burnt.put 0 (filled (epochText 1)) := ⟨_, rfl⟩
  have hD2 : D = ⟨List.replicate n zeroS, [(0, filled (epochText 1), 0)], 1, -1, false⟩ := by rw [hD]; rfl
  have hs : D.sync = (opened n, 0) := by
    unfold Dsk.sync
    have hm : D.may 0 = 0 := by
      rw [hD2]
      unfold Dsk.may
      rw [if_neg (by simp), if_neg (by simp; omega)]
    have hbu : D.burnt = D := by rw [hD2]; rfl
    rw [if_neg (by rw [hm]; simp), if_neg (by rw [hD2]; show ¬ ((-1 : Int) = 0); decide), hbu, hD2]
    unfold Dsk.synced opened
    simp only [Prod.mk.injEq, Dsk.mk.injEq, and_true]
    obtain ⟨k, rfl⟩ : ∃ k, n = k + 1 := ⟨n - 1, by omega⟩
    rw [List.replicate_succ, List.mapIdx_cons, Nat.add_sub_cancel]
    congr 1
    apply List.ext_getElem?
    intro i
    rw [List.getElem?_mapIdx, List.getElem?_replicate]
    split
    · simp [lastOf]
    · rfl
  unfold Dsk.nextE
  rw [hb.epoch]
  simp only [show ((0 : Int) + 1) = 1 from rfl, hw, ← hD, hs, ne_eq, not_true_eq_false, if_false]
  rw [if_neg (by decide)]
end Go.Proofs.YtfdijpacbhomjaaGreatDoor
namespace Go.Proofs.YtfdijpacbhomjaaGreatDoor.Abs
open Go Go.RowKit
section
variable [Defs]
def sPhG (P : Program) (n : Nat) (all : List Oper) (K : AL → Mem → Prop) : List (Nat × Nat) → Nat → AL → Mem → Prop
  | [], _, f, M => K f M
  | (q, b') :: r, b, f, M => sHeadG P n all M (fun f1 M1 => sOps P n all (fun f2 M2 => sPhG P n all K r b' f2 M2) ((all.drop q).take (b' - q)) f1 M1) false ((all.drop b).take (q - b)) f M
theorem sPhG_from {P : Program} {n : Nat} {ops : Array Oper} {Q : Exit → AL → Mem → Prop} : ∀ (l : List (Nat × Nat)) (b : Nat) (f : AL) (M : Mem) (a : List Value), phasesOK ops l b = true → Knows n f a → sPhG P n ops.toList (Q .normal) l b f M →
    From P ops (fun e a' m' => ∃ f', Knows n f' a' ∧ Q e f' m') b a M
  | [], b, f, M, a, hok, hf, h => From_end (Nat.le_of_ble_eq_true hok) ⟨f, hf, h⟩
  | (q, b') :: r, b, f, M, a, hok, hf, h => by
    simp only [phasesOK, Bool.and_eq_true] at hok
    obtain ⟨hok, hrest⟩ := hok
    obtain ⟨hho, hseq, hbar, hbq, hqb, hb'⟩ := phaseOK_spec hok
    have hid : ∀ k, k < b → getV ((List.range b).map (idV ops a)) k = idV ops a k := fun k hk => by
      unfold getV
      rw [List.getElem?_map, List.getElem?_range hk]; rfl
    have hnil : ∀ k, getN (List.replicate b []) k = [] := fun k => by
      unfold getN
      rw [List.getElem?_replicate]
      split <;> rfl
    obtain ⟨vs, Ns, f', h1, h2, h3, h4, h5, h6⟩ := sHead_runG b (idV ops a) (fun _ => []) (a₀ := a) (m₀ := M) hho (by omega) ((ops.toList.drop b).take (q - b)) b ((List.range b).map (idV ops a)) (List.replicate b []) false f M
      (fun j => by
        rw [List.getElem?_take, List.getElem?_drop, Array.getElem?_toList]
        by_cases hj : b + j < q
        · rw [if_pos (by omega), if_pos hj]
        · rw [if_neg (by omega), if_neg hj]) hbq (by simp) (by simp)
      (by rw [frameAt_id b fun k hk _ => hid k hk]; exact hf)
      (by
        unfold memAt
        have : ∀ i, newsAt (getN (List.replicate b [])) allS i = [] := by
          intro i
          induction i with
          | zero => rfl
          | succ i ih => simp [newsAt, ih, hnil]
        rw [this, List.append_nil])
      (fun _ j => hnil j) (fun j hj => by rw [hnil]; rfl) (fun i o hi hi2 => by omega) (fun i o hi hi2 => by omega) (Nat.le_refl _) (fun j hj => ⟨hid j hj, hnil j⟩) h
    refine From_phase (v := getV vs) (N := getN Ns) hok (fun k hk => (h6 k hk).1) (fun k hk => (h6 k hk).2) h4 ?_
    refine sOps_run (fun f2 M2 a2 g1 g2 => ?_) _ f' _ _ h1 h2
    exact sPhG_from r b' f2 M2 a2 hrest g1 g2
theorem SW_drawnG {P : Program} {n : Nat} {Q : Exit → AL → Mem → Prop} {f : AL} {m : Mem} {id : Nat} {ops : Array Oper} (hmix : P.follows .mixedOrders = true) (l : List (Nat × Nat)) (hok : phasesOK ops l 0 = true)
    (h : sPhG P n ops.toList (Q .normal) l 0 f m) : SW P n (.region id ops true) Q f m := fun a ha => AW_from hmix (sPhG_from l 0 f m a hok ha h)
end
section
def sPhGB (P : Program) (n : Nat) (all : List Oper) [K : Box (AL → Mem → Prop)] : List (Nat × Nat) → Nat → AL → Mem → Prop
  | [], _, f, M => K.k f M
  | (q, b') :: r, b, f, M => @sHeadGB P n all M ⟨fun f1 M1 => @sOpsB P n all ⟨fun f2 M2 => sPhGB P n all r b' f2 M2⟩ ((all.drop q).take (b' - q)) f1 M1⟩ ((all.drop b).take (q - b)) false f M
theorem sPhGB_eq (P : Program) (n : Nat) (all : List Oper) (K : AL → Mem → Prop) : ∀ (l : List (Nat × Nat)) (b : Nat) (f : AL) (M : Mem), @sPhGB P n all ⟨K⟩ l b f M = sPhG P n all K l b f M
  | [], _, _, _ => rfl
  | (q, b') :: r, b, f, M => by
    have : (fun f2 M2 => @sPhGB P n all ⟨K⟩ r b' f2 M2) = (fun f2 M2 => sPhG P n all K r b' f2 M2) := funext fun f2 => funext fun M2 => sPhGB_eq P n all K r b' f2 M2
    exact congrArg (fun G => @sHeadGB P n all M ⟨fun f1 M1 => @sOpsB P n all ⟨G⟩ ((all.drop q).take (b' - q)) f1 M1⟩ ((all.drop b).take (q - b)) false f M) this
variable {P : Program} {n k : Nat} {f : AL} {m : Mem} {Q : Exit → AL → Mem → Prop}
theorem CW_drawnG {id : Nat} {ops : Array Oper} (hmix : P.follows .mixedOrders = true) (l : List (Nat × Nat)) (hok : phasesOK ops l 0 = true)
    (h : @sPhGB P n ops.toList ⟨Q .normal⟩ l 0 f m) : @CW P n k ⟨.region id ops true⟩ ⟨Q⟩ f m := .of_SW (SW_drawnG hmix l hok (by rw [← sPhGB_eq]; exact h))
theorem app_none (M : Mem) : M.app [] = M := by simp [Mem.app]
theorem emp_nil : (!([] : List (Option Blk)).isEmpty) = false := rfl
end
end Go.Proofs.YtfdijpacbhomjaaGreatDoor.Abs
--LONG
/-
  A new world: its sides' disks are opened.
-/
namespace Go.Proofs.YtfdijpacbhomjaaGreatDoor
open Go.RowKit Abs
def wC (d0 p0 d1 p1 sv rv nv : Value) : List Value := [.string ⟨#[]⟩, d0, p0, d1, p1, sv, rv, nv, .int .i64 0, .slice none 0 0, .slice none 0 0, .slice none 0 0, .int .i64 0, .int .i64 0, .slice none 0 0, .int .i64 0]
theorem wdepot (M : Mem) (p q g n : Nat) (hd : DskAt M p q g (newDsk n)) (h1 : 1 ≤ n) (h2 : n ≤ 1024) :
    Abs.Spec Tryz.prog 50 [dp p, .string ⟨#[]⟩] M fun u M' => ∃ pv, u = .tuple #[pv, .int .i64 (if n < 13 then 1 else 0)] ∧ (pv = .pointer none ∨ ∃ d, pv = dp d) ∧ Only [p, q, g] M M' ∧ M.size ≤ M'.size := by
  have hl : (newDsk n).old.length = n := by simp [newDsk]
  by_cases h : n < 13
  · refine (open_small M p q g (newDsk n) hd ⟨#[]⟩ (by omega)).mono ?_
    rintro u M' ⟨rfl, rfl⟩
    exact ⟨_, by rw [if_pos h], .inl rfl, Only.refl _ _, Nat.le_refl _⟩
  · refine (open_blank M p q g (newDsk n) 0 (newDsk_blank n h1 h2) hd ⟨#[]⟩ (by decide) (by omega) (by rw [nextE_new n h1 h2])).mono ?_
    rintro u M' ⟨d, rfl, _, _, _, ho, hs⟩
    exact ⟨_, by rw [if_neg h], .inr ⟨d, rfl⟩, ho, hs⟩
theorem rnew_none : Known Tryz.prog 51 [.pointer none] (.pointer none) := known_of_val hmix noT_good (L := 10) (n := 5) (List.all_eq_true.1 rfl) rfl (by kernel_rfl)
theorem snew_none : Known Tryz.prog 52 [.pointer none] (.pointer none) := known_of_val hmix noT_good (L := 10) (n := 5) (List.all_eq_true.1 rfl) rfl (by kernel_rfl)
set_option maxRecDepth 100000 in
set_option maxHeartbeats 2000000 in
theorem rnew_spec (M : Mem) (pv : Value) (hpv : pv = .pointer none ∨ ∃ d, pv = dp d) :
    Abs.Spec Tryz.prog 51 [pv] M fun u M' => (u = .pointer none ∨ ∃ d, u = dp d) ∧ More M M' := by
  rcases hpv with rfl | ⟨d, rfl⟩
  · refine (rnew_none M).mono ?_
    rintro u M' ⟨rfl, rfl⟩
    exact ⟨.inl rfl, More.refl _⟩
  · refine Abs.Spec.walkM Tryz.func51 (by rfl) _ Tryz.results51 _ Tryz.ntmps51 (by simp) ?_
    intro _ _ _
    have pe : aBin Tryz.prog .eql 45 true (dp d) (.pointer none) = some (.bool false) := by kernel_rfl
    have hbd : aBuild Tryz.prog 210 [(0, dp d)] = some (.agg #[dp d, .int .i64 0]) := by kernel_rfl
    have hbx : nBox Tryz.prog 210 (.agg #[dp d, .int .i64 0]) = some (.cells false (aStride Tryz.prog 210) [dp d, .int .i64 0]) := nBox_row 210 rfl
    generalize aStride Tryz.prog 210 = s1 at hbx
    refine CW_seq (CW_region ?_)
    simp only [zZ, reduceIte, Nat.reduceLT, Int.reduceToNat, Int.reduceLE, Int.reduceEq, Int.reduceLT, Nat.reduceEqDiff, Nat.reduceAdd, zDk, pd_eql, pd_neq, pd_eql0, pd_neq0, zPt]
    refine CW_seq (CW_seq (CW_region ?_))
    simp only [zZ, reduceIte, Nat.reduceLT, Int.reduceToNat, Int.reduceLE, Int.reduceEq, Int.reduceLT, Nat.reduceEqDiff, Nat.reduceAdd, zDk, pd_eql, pd_neq, pd_eql0, pd_neq0, zPt, pe]
    refine CW_cond false (by rfl) (fun h => by cases h) (fun _ => CW_skip ?_)
    simp only [zZ, reduceIte, Nat.reduceLT, Int.reduceToNat, Int.reduceLE, Int.reduceEq, Int.reduceLT, Nat.reduceEqDiff, Nat.reduceAdd, zDk, pd_eql, pd_neq, pd_eql0, pd_neq0, zPt]
    refine CW_seq (CW_region ?_)
    simp only [zZ, reduceIte, Nat.reduceLT, Int.reduceToNat, Int.reduceLE, Int.reduceEq, Int.reduceLT, Nat.reduceEqDiff, Nat.reduceAdd, zDk, pd_eql, pd_neq, pd_eql0, pd_neq0, zPt, hbd, hbx]
    refine CW_ret ?_
    simp only [zZ, reduceIte, Nat.reduceLT, Int.reduceToNat, Int.reduceLE, Int.reduceEq, Int.reduceLT, Nat.reduceEqDiff, Nat.reduceAdd, zDk, pd_eql, pd_neq, pd_eql0, pd_neq0, zPt, mEnd, sAnswer, sAnswer.sRes]
    exact ⟨_, Thin.refl _, .inr ⟨_, rfl⟩, More.push _ _⟩
set_option maxRecDepth 100000 in
set_option maxHeartbeats 8000000 in
theorem wopen0 (M : Mem) (b s p q g n : Nat) (hd : DskAt M p q g (newDsk n)) (h1 : 1 ≤ n) (h2 : n ≤ 1024) (nv : Value) (hw : M.get b = some (.cells false s (wC (dp p) (.pointer none) (.pointer none) (.pointer none) (.pointer none) (.pointer none) nv))) (hb : b ∉ [p, q, g]) :
    Abs.Spec Tryz.prog 22 [dp b, .int .i64 0] M fun u M' => u = .int .i64 (if n < 13 then 1 else 0) ∧ (∃ pv rv, M'.get b = some (.cells false s (wC (dp p) pv (.pointer none) (.pointer none) (.pointer none) rv nv))) ∧ Only [b, p, q, g] M M' ∧ M.size ≤ M'.size := by
  refine Abs.Spec.walkM Tryz.func22 (by rfl) _ Tryz.results22 _ Tryz.ntmps22 (by simp) ?_
  intro _ _ _
  have ia : ∀ (b o : Nat), aIndexAddr Tryz.prog 71 (.pointer (some ⟨b, o, none⟩)) (.int .i64 0) = some (.pointer (some ⟨b, o, none⟩)) := fun _ _ => by kernel_rfl
  have k0 : cellIn 0 (some (.cells false s (wC (dp p) (.pointer none) (.pointer none) (.pointer none) (.pointer none) (.pointer none) nv))) = some (.string ⟨#[]⟩) := rfl
  have k1 : cellIn 1 (some (.cells false s (wC (dp p) (.pointer none) (.pointer none) (.pointer none) (.pointer none) (.pointer none) nv))) = some (dp p) := rfl
  have hdb : dp b = .pointer (some ⟨b, 0, none⟩) := rfl
  refine CW_seq (CW_region ?_)
  simp only [zZ, reduceIte, Nat.reduceLT, Int.reduceToNat, Int.reduceLE, Int.reduceEq, Int.reduceLT, Nat.reduceEqDiff, Nat.reduceAdd, zDk, pd_eql, pd_neq, pd_eql0, pd_neq0, zPt]
  refine CW_seq (CW_drawnG hmix [(11, 12), (16, 17)] (by kernel_rfl) ?_)
  simp only [zZ, reduceIte, Nat.reduceLT, Int.reduceToNat, Int.reduceLE, Int.reduceEq, Int.reduceLT, Nat.reduceEqDiff, Nat.reduceAdd, sPhGB, sHeadGB, sHOneG, sHOpG, isVal, sGuardedV, app_none, emp_nil, Nat.reduceSub, Nat.sub_zero, zDk, pd_eql, pd_neq, pd_eql0, pd_neq0, zPt, hdb, ia, hw, k0, k1]
  refine ⟨by kernel_rfl, _, wdepot M p q g n hd h1 h2, ?_⟩
  rintro _ M1 ⟨pv, rfl, hpv, ho, hs⟩
  have hw1 := ho _ _ hb hw
  simp only [zZ, reduceIte, Nat.reduceLT, Int.reduceToNat, Int.reduceLE, Int.reduceEq, Int.reduceLT, Nat.reduceEqDiff, Nat.reduceAdd, sPhGB, sHeadGB, sHOneG, sHOpG, isVal, sGuardedV, app_none, emp_nil, Nat.reduceSub, Nat.sub_zero, zDk, pd_eql, pd_neq, pd_eql0, pd_neq0, zPt]
  have p2 : ∀ (X : Mem), putIn 1 X b 2 [pv] (some (.cells false s (wC (dp p) (.pointer none) (.pointer none) (.pointer none) (.pointer none) (.pointer none) nv))) = some (X.set b (some (.cells false s (wC (dp p) pv (.pointer none) (.pointer none) (.pointer none) (.pointer none) nv)))) := fun X => by
    rcases hpv with rfl | ⟨d, rfl⟩ <;> rfl
  have hpc : pv.cells.toList = [pv] := by rcases hpv with rfl | ⟨d, rfl⟩ <;> rfl
  have q00 : ((0 : Int) == 0) = true := rfl
  refine CW_seq (CW_region ?_)
  simp only [zZ, reduceIte, Nat.reduceLT, Int.reduceToNat, Int.reduceLE, Int.reduceEq, Int.reduceLT, Nat.reduceEqDiff, Nat.reduceAdd, zDk, pd_eql, pd_neq, pd_eql0, pd_neq0, zPt, ia, hw1, hpc, p2]
  obtain ⟨M2, hM2⟩ : ∃ M2, M2 = M1.set b (some (.cells false s (wC (dp p) pv (.pointer none) (.pointer none) (.pointer none) (.pointer none) nv))) := ⟨_, rfl⟩
  have hw2 : M2.get b = some (.cells false s (wC (dp p) pv (.pointer none) (.pointer none) (.pointer none) (.pointer none) nv)) := by rw [hM2]; exact Mem.get_set_same hw1 _
  have hs2 : M.size ≤ M2.size := by rw [hM2, Mem.size_set]; exact hs
  have hO2 : Only [b, p, q, g] M M2 := fun c x hc hx => by
    simp at hc
    rw [hM2, Mem.get_set_ne (fun e => hc.1 e.symm)]; exact ho c x (by simp; exact hc.2) hx
  rw [← hM2]
  refine MW_mid (fun f M' => f = [(6, .int .i64 (if n < 13 then 1 else 0))] ∧ (∃ rv, M'.get b = some (.cells false s (wC (dp p) pv (.pointer none) (.pointer none) (.pointer none) rv nv))) ∧ Only [b, p, q, g] M M' ∧ M.size ≤ M'.size) ?_ ?_
  · refine CW_seq (CW_region ?_)
    simp only [zZ, reduceIte, Nat.reduceLT, Int.reduceToNat, Int.reduceLE, Int.reduceEq, Int.reduceLT, Nat.reduceEqDiff, Nat.reduceAdd, zDk, pd_eql, pd_neq, pd_eql0, pd_neq0, zPt, q00]
    refine CW_cond true (by rfl) (fun _ => CW_region ?_) (fun h => by cases h)
    simp only [zZ, reduceIte, Nat.reduceLT, Int.reduceToNat, Int.reduceLE, Int.reduceEq, Int.reduceLT, Nat.reduceEqDiff, Nat.reduceAdd, zDk, pd_eql, pd_neq, pd_eql0, pd_neq0, zPt]
    refine ⟨by kernel_rfl, _, rnew_spec M2 pv hpv, ?_⟩
    rintro rv M3 ⟨hrv, mo⟩
    have hw3 := mo.get _ _ hw2
    have p6 : ∀ (X : Mem), putIn 1 X b 6 [rv] (some (.cells false s (wC (dp p) pv (.pointer none) (.pointer none) (.pointer none) (.pointer none) nv))) = some (X.set b (some (.cells false s (wC (dp p) pv (.pointer none) (.pointer none) (.pointer none) rv nv)))) := fun X => by
      rcases hrv with rfl | ⟨d, rfl⟩ <;> rfl
    have hrc : rv.cells.toList = [rv] := by rcases hrv with rfl | ⟨d, rfl⟩ <;> rfl
    simp only [zZ, reduceIte, Nat.reduceLT, Int.reduceToNat, Int.reduceLE, Int.reduceEq, Int.reduceLT, Nat.reduceEqDiff, Nat.reduceAdd, zDk, pd_eql, pd_neq, pd_eql0, pd_neq0, zPt, hw3, hrc, p6]
    refine ⟨[6], ?_⟩
    simp only [zZ, reduceIte, Nat.reduceLT, Int.reduceToNat, Int.reduceLE, Int.reduceEq, Int.reduceLT, Nat.reduceEqDiff, Nat.reduceAdd, keepF]
    exact ⟨_, Thin.refl _, ⟨rv, Mem.get_set_same hw3 _⟩, (fun c x hc hx => by have hc2 := hc; simp at hc2; rw [Mem.get_set_ne (fun e => hc2.1 e.symm)]; exact mo.get _ _ (hO2 c x hc hx)), by rw [Mem.size_set]; have := mo.size; omega⟩
  · rintro f M4 ⟨rfl, ⟨rv, hg⟩, hO, hz⟩
    refine CW_seq (CW_region ?_)
    simp only [zZ, reduceIte, Nat.reduceLT, Int.reduceToNat, Int.reduceLE, Int.reduceEq, Int.reduceLT, Nat.reduceEqDiff, Nat.reduceAdd, zDk, pd_eql, pd_neq, pd_eql0, pd_neq0, zPt]
    refine CW_ret ?_
    simp only [zZ, reduceIte, Nat.reduceLT, Int.reduceToNat, Int.reduceLE, Int.reduceEq, Int.reduceLT, Nat.reduceEqDiff, Nat.reduceAdd, zDk, pd_eql, pd_neq, pd_eql0, pd_neq0, zPt, mEnd, sAnswer, sAnswer.sRes]
    exact ⟨M4, Thin.refl _, ⟨pv, rv, hg⟩, hO, hz⟩
set_option maxRecDepth 100000 in
set_option maxHeartbeats 2000000 in
theorem snew_spec (M : Mem) (pv : Value) (hpv : pv = .pointer none ∨ ∃ d, pv = dp d) :
    Abs.Spec Tryz.prog 52 [pv] M fun u M' => (u = .pointer none ∨ ∃ d, u = dp d) ∧ More M M' := by
  rcases hpv with rfl | ⟨d, rfl⟩
  · refine (snew_none M).mono ?_
    rintro u M' ⟨rfl, rfl⟩
    exact ⟨.inl rfl, More.refl _⟩
  · refine Abs.Spec.walkM Tryz.func52 (by rfl) _ Tryz.results52 _ Tryz.ntmps52 (by simp) ?_
    intro _ _ _
    have pe : aBin Tryz.prog .eql 45 true (dp d) (.pointer none) = some (.bool false) := by kernel_rfl
    have hbd : aBuild Tryz.prog 167 [(0, dp d)] = some (.agg #[dp d, .slice none 0 0, .int .i64 0, .string ⟨#[]⟩, .int .i64 0, .int .i64 0, .int .i64 0, .string ⟨#[]⟩, .string ⟨#[]⟩, .slice none 0 0, .slice none 0 0, .pointer none, .int .i64 0, .int .i64 0, .int .i64 0, .int .i64 0]) := by kernel_rfl
    have hbx : nBox Tryz.prog 167 (.agg #[dp d, .slice none 0 0, .int .i64 0, .string ⟨#[]⟩, .int .i64 0, .int .i64 0, .int .i64 0, .string ⟨#[]⟩, .string ⟨#[]⟩, .slice none 0 0, .slice none 0 0, .pointer none, .int .i64 0, .int .i64 0, .int .i64 0, .int .i64 0]) = some (.cells false (aStride Tryz.prog 167) [dp d, .slice none 0 0, .int .i64 0, .string ⟨#[]⟩, .int .i64 0, .int .i64 0, .int .i64 0, .string ⟨#[]⟩, .string ⟨#[]⟩, .slice none 0 0, .slice none 0 0, .pointer none, .int .i64 0, .int .i64 0, .int .i64 0, .int .i64 0]) := nBox_row 167 rfl
    generalize aStride Tryz.prog 167 = s1 at hbx
    refine CW_seq (CW_region ?_)
    simp only [zZ, reduceIte, Nat.reduceLT, Int.reduceToNat, Int.reduceLE, Int.reduceEq, Int.reduceLT, Nat.reduceEqDiff, Nat.reduceAdd, zDk, pd_eql, pd_neq, pd_eql0, pd_neq0, zPt]
    refine CW_seq (CW_seq (CW_region ?_))
    simp only [zZ, reduceIte, Nat.reduceLT, Int.reduceToNat, Int.reduceLE, Int.reduceEq, Int.reduceLT, Nat.reduceEqDiff, Nat.reduceAdd, zDk, pd_eql, pd_neq, pd_eql0, pd_neq0, zPt, pe]
    refine CW_cond false (by rfl) (fun h => by cases h) (fun _ => CW_skip ?_)
    simp only [zZ, reduceIte, Nat.reduceLT, Int.reduceToNat, Int.reduceLE, Int.reduceEq, Int.reduceLT, Nat.reduceEqDiff, Nat.reduceAdd, zDk, pd_eql, pd_neq, pd_eql0, pd_neq0, zPt]
    refine CW_seq (CW_region ?_)
    simp only [zZ, reduceIte, Nat.reduceLT, Int.reduceToNat, Int.reduceLE, Int.reduceEq, Int.reduceLT, Nat.reduceEqDiff, Nat.reduceAdd, zDk, pd_eql, pd_neq, pd_eql0, pd_neq0, zPt, hbd, hbx]
    refine CW_ret ?_
    simp only [zZ, reduceIte, Nat.reduceLT, Int.reduceToNat, Int.reduceLE, Int.reduceEq, Int.reduceLT, Nat.reduceEqDiff, Nat.reduceAdd, zDk, pd_eql, pd_neq, pd_eql0, pd_neq0, zPt, mEnd, sAnswer, sAnswer.sRes]
    exact ⟨_, Thin.refl _, .inr ⟨_, rfl⟩, More.push _ _⟩
set_option maxRecDepth 100000 in
set_option maxHeartbeats 8000000 in
theorem wopen1 (M : Mem) (b s p q g n : Nat) (d0 p0 rv : Value) (hd : DskAt M p q g (newDsk n)) (h1 : 1 ≤ n) (h2 : n ≤ 1024) (nv : Value) (hw : M.get b = some (.cells false s (wC d0 p0 (dp p) (.pointer none) (.pointer none) rv nv))) (hb : b ∉ [p, q, g]) :
    Abs.Spec Tryz.prog 22 [dp b, .int .i64 1] M fun u M' => u = .int .i64 (if n < 13 then 1 else 0) ∧ (∃ pv sv, M'.get b = some (.cells false s (wC d0 p0 (dp p) pv sv rv nv))) ∧ Only [b, p, q, g] M M' ∧ M.size ≤ M'.size := by
  refine Abs.Spec.walkM Tryz.func22 (by rfl) _ Tryz.results22 _ Tryz.ntmps22 (by simp) ?_
  intro _ _ _
  have ia : ∀ (b o : Nat), aIndexAddr Tryz.prog 71 (.pointer (some ⟨b, o, none⟩)) (.int .i64 1) = some (.pointer (some ⟨b, o + 2, none⟩)) := fun _ _ => by kernel_rfl
  have k0 : cellIn 0 (some (.cells false s (wC d0 p0 (dp p) (.pointer none) (.pointer none) rv nv))) = some (.string ⟨#[]⟩) := rfl
  have k1 : cellIn 3 (some (.cells false s (wC d0 p0 (dp p) (.pointer none) (.pointer none) rv nv))) = some (dp p) := rfl
  have hdb : dp b = .pointer (some ⟨b, 0, none⟩) := rfl
  refine CW_seq (CW_region ?_)
  simp only [zZ, reduceIte, Nat.reduceLT, Int.reduceToNat, Int.reduceLE, Int.reduceEq, Int.reduceLT, Nat.reduceEqDiff, Nat.reduceAdd, zDk, pd_eql, pd_neq, pd_eql0, pd_neq0, zPt]
  refine CW_seq (CW_drawnG hmix [(11, 12), (16, 17)] (by kernel_rfl) ?_)
  simp only [zZ, reduceIte, Nat.reduceLT, Int.reduceToNat, Int.reduceLE, Int.reduceEq, Int.reduceLT, Nat.reduceEqDiff, Nat.reduceAdd, sPhGB, sHeadGB, sHOneG, sHOpG, isVal, sGuardedV, app_none, emp_nil, Nat.reduceSub, Nat.sub_zero, zDk, pd_eql, pd_neq, pd_eql0, pd_neq0, zPt, hdb, ia, hw, k0, k1]
  refine ⟨by kernel_rfl, _, wdepot M p q g n hd h1 h2, ?_⟩
  rintro _ M1 ⟨pv, rfl, hpv, ho, hs⟩
  have hw1 := ho _ _ hb hw
  simp only [zZ, reduceIte, Nat.reduceLT, Int.reduceToNat, Int.reduceLE, Int.reduceEq, Int.reduceLT, Nat.reduceEqDiff, Nat.reduceAdd, sPhGB, sHeadGB, sHOneG, sHOpG, isVal, sGuardedV, app_none, emp_nil, Nat.reduceSub, Nat.sub_zero, zDk, pd_eql, pd_neq, pd_eql0, pd_neq0, zPt]
  have p2 : ∀ (X : Mem), putIn 1 X b 4 [pv] (some (.cells false s (wC d0 p0 (dp p) (.pointer none) (.pointer none) rv nv))) = some (X.set b (some (.cells false s (wC d0 p0 (dp p) pv (.pointer none) rv nv)))) := fun X => by
    rcases hpv with rfl | ⟨d, rfl⟩ <;> rfl
  have hpc : pv.cells.toList = [pv] := by rcases hpv with rfl | ⟨d, rfl⟩ <;> rfl
  have q00 : ((1 : Int) == 0) = false := rfl
  refine CW_seq (CW_region ?_)
  simp only [zZ, reduceIte, Nat.reduceLT, Int.reduceToNat, Int.reduceLE, Int.reduceEq, Int.reduceLT, Nat.reduceEqDiff, Nat.reduceAdd, zDk, pd_eql, pd_neq, pd_eql0, pd_neq0, zPt, ia, hw1, hpc, p2]
  obtain ⟨M2, hM2⟩ : ∃ M2, M2 = M1.set b (some (.cells false s (wC d0 p0 (dp p) pv (.pointer none) rv nv))) := ⟨_, rfl⟩
  have hw2 : M2.get b = some (.cells false s (wC d0 p0 (dp p) pv (.pointer none) rv nv)) := by rw [hM2]; exact Mem.get_set_same hw1 _
  have hs2 : M.size ≤ M2.size := by rw [hM2, Mem.size_set]; exact hs
  have hO2 : Only [b, p, q, g] M M2 := fun c x hc hx => by
    simp at hc
    rw [hM2, Mem.get_set_ne (fun e => hc.1 e.symm)]; exact ho c x (by simp; exact hc.2) hx
  rw [← hM2]
  refine MW_mid (fun f M' => f = [(6, .int .i64 (if n < 13 then 1 else 0))] ∧ (∃ sv, M'.get b = some (.cells false s (wC d0 p0 (dp p) pv sv rv nv))) ∧ Only [b, p, q, g] M M' ∧ M.size ≤ M'.size) ?_ ?_
  · refine CW_seq (CW_region ?_)
    simp only [zZ, reduceIte, Nat.reduceLT, Int.reduceToNat, Int.reduceLE, Int.reduceEq, Int.reduceLT, Nat.reduceEqDiff, Nat.reduceAdd, zDk, pd_eql, pd_neq, pd_eql0, pd_neq0, zPt, q00]
    refine CW_cond false (by rfl) (fun h => by cases h) (fun _ => CW_region ?_)
    simp only [zZ, reduceIte, Nat.reduceLT, Int.reduceToNat, Int.reduceLE, Int.reduceEq, Int.reduceLT, Nat.reduceEqDiff, Nat.reduceAdd, zDk, pd_eql, pd_neq, pd_eql0, pd_neq0, zPt]
    refine ⟨by kernel_rfl, _, snew_spec M2 pv hpv, ?_⟩
    rintro sv M3 ⟨hrv, mo⟩
    have hw3 := mo.get _ _ hw2
    have p6 : ∀ (X : Mem), putIn 1 X b 5 [sv] (some (.cells false s (wC d0 p0 (dp p) pv (.pointer none) rv nv))) = some (X.set b (some (.cells false s (wC d0 p0 (dp p) pv sv rv nv)))) := fun X => by
      rcases hrv with rfl | ⟨d, rfl⟩ <;> rfl
    have hrc : sv.cells.toList = [sv] := by rcases hrv with rfl | ⟨d, rfl⟩ <;> rfl
    simp only [zZ, reduceIte, Nat.reduceLT, Int.reduceToNat, Int.reduceLE, Int.reduceEq, Int.reduceLT, Nat.reduceEqDiff, Nat.reduceAdd, zDk, pd_eql, pd_neq, pd_eql0, pd_neq0, zPt, hw3, hrc, p6]
    refine ⟨[6], ?_⟩
    simp only [zZ, reduceIte, Nat.reduceLT, Int.reduceToNat, Int.reduceLE, Int.reduceEq, Int.reduceLT, Nat.reduceEqDiff, Nat.reduceAdd, keepF]
    exact ⟨_, Thin.refl _, ⟨sv, Mem.get_set_same hw3 _⟩, (fun c x hc hx => by have hc2 := hc; simp at hc2; rw [Mem.get_set_ne (fun e => hc2.1 e.symm)]; exact mo.get _ _ (hO2 c x hc hx)), by rw [Mem.size_set]; have := mo.size; omega⟩
  · rintro f M4 ⟨rfl, ⟨sv, hg⟩, hO, hz⟩
    refine CW_seq (CW_region ?_)
    simp only [zZ, reduceIte, Nat.reduceLT, Int.reduceToNat, Int.reduceLE, Int.reduceEq, Int.reduceLT, Nat.reduceEqDiff, Nat.reduceAdd, zDk, pd_eql, pd_neq, pd_eql0, pd_neq0, zPt]
    refine CW_ret ?_
    simp only [zZ, reduceIte, Nat.reduceLT, Int.reduceToNat, Int.reduceLE, Int.reduceEq, Int.reduceLT, Nat.reduceEqDiff, Nat.reduceAdd, zDk, pd_eql, pd_neq, pd_eql0, pd_neq0, zPt, mEnd, sAnswer, sAnswer.sRes]
    exact ⟨M4, Thin.refl _, ⟨pv, sv, hg⟩, hO, hz⟩
end Go.Proofs.YtfdijpacbhomjaaGreatDoor
--LONG
/-
  A new world: disks that may not be, the network.
-/
namespace Go.Proofs.YtfdijpacbhomjaaGreatDoor
open Go.RowKit Abs
set_option maxRecDepth 100000 in
set_option maxHeartbeats 4000000 in
theorem new_bad (M : Mem) (n : Int) (h : n < 1 ∨ 1024 < n) : Abs.Spec Tryz.prog 21 [.int .i64 n] M fun u M' => u = .tuple #[.pointer none, .int .i64 1] ∧ M' = M := by
  refine Abs.Spec.walkM Tryz.func21 (by rfl) _ Tryz.results21 _ Tryz.ntmps21 (by simp) ?_
  intro _ _ _
  have t1 : ((some true : Option Bool) == some false) = false := rfl
  have t2 : ((some false : Option Bool) == some false) = true := rfl
  refine CW_seq (CW_region ?_)
  simp only [zZ, reduceIte, Nat.reduceLT, Int.reduceToNat, Int.reduceLE, Int.reduceEq, Int.reduceLT, Nat.reduceEqDiff, Nat.reduceAdd, zDk, pd_eql, pd_neq, pd_eql0, pd_neq0, zPt]
  by_cases h1 : n < 1
  · have q1 : decide (n < 1) = true := decide_eq_true h1
    refine CW_seq (CW_seq (CW_region ?_))
    simp only [zZ, reduceIte, Nat.reduceLT, Int.reduceToNat, Int.reduceLE, Int.reduceEq, Int.reduceLT, Nat.reduceEqDiff, Nat.reduceAdd, zDk, pd_eql, pd_neq, pd_eql0, pd_neq0, zPt, q1, t1]
    refine CW_cond true (by rfl) (fun _ => CW_seq (CW_region ?_)) (fun h => by cases h)
    simp only [zZ, reduceIte, Nat.reduceLT, Int.reduceToNat, Int.reduceLE, Int.reduceEq, Int.reduceLT, Nat.reduceEqDiff, Nat.reduceAdd, zDk, pd_eql, pd_neq, pd_eql0, pd_neq0, zPt]
    refine CW_ret ?_
    simp only [zZ, reduceIte, Nat.reduceLT, Int.reduceToNat, Int.reduceLE, Int.reduceEq, Int.reduceLT, Nat.reduceEqDiff, Nat.reduceAdd, zDk, pd_eql, pd_neq, pd_eql0, pd_neq0, zPt, mEnd, sAnswer, sAnswer.sRes]
    exact ⟨M, Thin.refl _, rfl⟩
  · have q1 : decide (n < 1) = false := decide_eq_false h1
    have q2 : decide (n > 1024) = true := decide_eq_true (by omega)
    have q3 : decide ((1024 : Int) < n) = true := decide_eq_true (by omega)
    refine CW_seq (CW_seq (CW_region ?_))
    simp only [zZ, reduceIte, Nat.reduceLT, Int.reduceToNat, Int.reduceLE, Int.reduceEq, Int.reduceLT, Nat.reduceEqDiff, Nat.reduceAdd, zDk, pd_eql, pd_neq, pd_eql0, pd_neq0, zPt, q1, q2, q3, t2]
    refine CW_cond true (by rfl) (fun _ => CW_seq (CW_region ?_)) (fun h => by cases h)
    simp only [zZ, reduceIte, Nat.reduceLT, Int.reduceToNat, Int.reduceLE, Int.reduceEq, Int.reduceLT, Nat.reduceEqDiff, Nat.reduceAdd, zDk, pd_eql, pd_neq, pd_eql0, pd_neq0, zPt]
    refine CW_ret ?_
    simp only [zZ, reduceIte, Nat.reduceLT, Int.reduceToNat, Int.reduceLE, Int.reduceEq, Int.reduceLT, Nat.reduceEqDiff, Nat.reduceAdd, zDk, pd_eql, pd_neq, pd_eql0, pd_neq0, zPt, mEnd, sAnswer, sAnswer.sRes]
    exact ⟨M, Thin.refl _, rfl⟩
set_option maxRecDepth 100000 in
set_option maxHeartbeats 4000000 in
theorem nnew_spec (M : Mem) : Abs.Spec Tryz.prog 20 [.agg #[.int .i64 0, .int .i64 0]] M fun u M' => (∃ d, u = dp d) ∧ More M M' := by
  refine Abs.Spec.walkM Tryz.func20 (by rfl) _ Tryz.results20 _ Tryz.ntmps20 (by simp) ?_
  intro _ _ _
  have bx : nBox Tryz.prog 32 (.agg #[.int .i64 0, .int .i64 0]) = some (.cells false (aStride Tryz.prog 32) [.int .i64 0, .int .i64 0]) := nBox_row 32 rfl
  generalize aStride Tryz.prog 32 = s1 at bx
  have f0 : ∀ b o, aFieldAddr Tryz.prog 32 (.pointer (some ⟨b, o, none⟩)) 0 = some (.pointer (some ⟨b, o, none⟩)) := fun _ _ => by kernel_rfl
  have f1 : ∀ b o, aFieldAddr Tryz.prog 32 (.pointer (some ⟨b, o, none⟩)) 1 = some (.pointer (some ⟨b, o + 1, none⟩)) := fun _ _ => by kernel_rfl
  have c0 : cellIn 0 (some (.cells false s1 [.int .i64 0, .int .i64 0])) = some (.int .i64 0) := rfl
  have c1 : cellIn 1 (some (.cells false s1 [.int .i64 0, .int .i64 0])) = some (.int .i64 0) := rfl
  refine CW_seq (CW_region ?_)
  simp only [zZ, reduceIte, Nat.reduceLT, Int.reduceToNat, Int.reduceLE, Int.reduceEq, Int.reduceLT, Nat.reduceEqDiff, Nat.reduceAdd, zDk, pd_eql, pd_neq, pd_eql0, pd_neq0, zPt, bx]
  refine CW_seq (CW_region ?_)
  have m0 : vMin false [.int .i64 0, .int .i64 0] = some (.int .i64 0) := rfl
  have m1 : vMin true [.int .i64 0, .int .i64 64] = some (.int .i64 0) := rfl
  have b0 : aBuild Tryz.prog 32 [(0, .int .i64 0), (1, .int .i64 0)] = some (.agg #[.int .i64 0, .int .i64 0]) := by kernel_rfl
  have bn : ∀ q : Nat, aBuild Tryz.prog 125 [(0, .agg #[.int .i64 0, .int .i64 0]), (2, .map (some q))] = some (.agg #[.int .i64 0, .int .i64 0, .slice none 0 0, .map (some q), .slice none 0 0, .int .i64 0]) := fun q => by kernel_rfl
  have bb : ∀ q : Nat, nBox Tryz.prog 125 (.agg #[.int .i64 0, .int .i64 0, .slice none 0 0, .map (some q), .slice none 0 0, .int .i64 0]) = some (.cells false (aStride Tryz.prog 125) [.int .i64 0, .int .i64 0, .slice none 0 0, .map (some q), .slice none 0 0, .int .i64 0]) := fun q => nBox_row 125 rfl
  generalize aStride Tryz.prog 125 = s2 at bb
  simp only [zZ, reduceIte, Nat.reduceLT, Int.reduceToNat, Int.reduceLE, Int.reduceEq, Int.reduceLT, Nat.reduceEqDiff, Nat.reduceAdd, zDk, pd_eql, pd_neq, pd_eql0, pd_neq0, zPt, f0, f1, Mem.get_push_new, c0, c1, m0, m1, b0, bn, bb]
  refine CW_ret ?_
  simp only [zZ, reduceIte, Nat.reduceLT, Int.reduceToNat, Int.reduceLE, Int.reduceEq, Int.reduceLT, Nat.reduceEqDiff, Nat.reduceAdd, zDk, pd_eql, pd_neq, pd_eql0, pd_neq0, zPt, mEnd, sAnswer, sAnswer.sRes]
  exact ⟨_, Thin.refl _, ⟨_, rfl⟩, ((More.push _ _).trans (More.push _ _)).trans (More.push _ _)⟩
end Go.Proofs.YtfdijpacbhomjaaGreatDoor
namespace Go.Proofs.YtfdijpacbhomjaaGreatDoor.Abs
open Go Go.RowKit
section
variable [Defs]
def nthO : List Oper → Nat → List Oper → List Oper
  | [], _, r => r
  | o :: _, 0, r => o :: r
  | _ :: l, i + 1, r => nthO l i r
def pickL (l : List Oper) : List Nat → List Oper → List Oper
  | [], r => r
  | i :: s, r => nthO l i (pickL l s r)
theorem nthO_eq : ∀ (l : List Oper) (i : Nat) (r : List Oper), nthO l i r = (l[i]?).toList ++ r
  | [], _, _ => rfl
  | _ :: _, 0, _ => rfl
  | _ :: l, i + 1, r => by rw [nthO, nthO_eq l i r, List.getElem?_cons_succ]
theorem pickL_eq (ops : Array Oper) : ∀ (s : List Nat) (r : List Oper), pickL ops.toList s r = pick ops s ++ r
  | [], r => rfl
  | i :: s, r => by
    rw [pickL, nthO_eq, pickL_eq ops s r, Array.getElem?_toList]
    unfold pick
    cases h : ops[i]? with
    | none => rw [List.filterMap_cons_none h]; rfl
    | some o => rw [List.filterMap_cons_some h]; rfl
theorem SW_two {P : Program} {n : Nat} {Q : Exit → AL → Mem → Prop} {f : AL} {m : Mem} {id : Nat} {ops : Array Oper} (hmix : P.follows .mixedOrders = true) (pre : List Nat) (qc z : Nat) (post : List Nat) (q : Nat) (hok : twoOK ops pre qc z post q = true)
    (h1 : sOps P n ops.toList (Q .normal) (pickL ops.toList (pre ++ qc :: z :: post) (ops.toList.drop q)) f m) (h2 : sOps P n ops.toList (Q .normal) (pickL ops.toList (pre ++ z :: qc :: post) (ops.toList.drop q)) f m) : SW P n (.region id ops true) Q f m := by
  intro a ha
  rw [pickL_eq] at h1 h2
  exact AW_two hmix pre qc z post q hok (sOps_run (fun f m a h1 h2 => ⟨f, h1, h2⟩) _ f _ _ ha h1) (sOps_run (fun f m a h1 h2 => ⟨f, h1, h2⟩) _ f _ _ ha h2)
end
section
variable {P : Program} {n k : Nat} {f : AL} {m : Mem} {Q : Exit → AL → Mem → Prop}
theorem CW_two {id : Nat} {ops : Array Oper} (hmix : P.follows .mixedOrders = true) (pre : List Nat) (qc z : Nat) (post : List Nat) (q : Nat) (hok : twoOK ops pre qc z post q = true)
    (h1 : @sOpsB P n ops.toList ⟨Q .normal⟩ (pickL ops.toList (pre ++ qc :: z :: post) (ops.toList.drop q)) f m) (h2 : @sOpsB P n ops.toList ⟨Q .normal⟩ (pickL ops.toList (pre ++ z :: qc :: post) (ops.toList.drop q)) f m) : @CW P n k ⟨.region id ops true⟩ ⟨Q⟩ f m :=
  .of_SW (SW_two hmix pre qc z post q hok h1 h2)
def sPick := And.intro @nthO.eq_1 (And.intro @nthO.eq_2 (And.intro @nthO.eq_3 (And.intro @pickL.eq_1 @pickL.eq_2)))
end
end Go.Proofs.YtfdijpacbhomjaaGreatDoor.Abs
--LONG
/-
  A new world of disks of any sizes.
-/
namespace Go.Proofs.YtfdijpacbhomjaaGreatDoor
open Go.RowKit Abs
def okSize (n : Int) : Bool := decide (13 ≤ n) && decide (n ≤ 1024)
def WNew (fr tn : Int) (M : Mem) (u : Value) (M' : Mem) : Prop := (∃ v, u = .tuple #[v, .int .i64 (if (okSize fr && okSize tn) = true then 0 else 1)] ∧ (if (okSize fr && okSize tn) = true then ∃ d, v = dp d else v = .pointer none)) ∧ More M M'
theorem WNew.bad {fr tn : Int} {M M' : Mem} (h : okSize fr = false ∨ okSize tn = false) (hs : More M M') : WNew fr tn M (.tuple #[.pointer none, .int .i64 1]) M' := by
  have : (okSize fr && okSize tn) = false := by rcases h with h | h <;> rw [h] <;> simp
  unfold WNew
  rw [this]
  exact ⟨⟨_, rfl, rfl⟩, hs⟩
theorem WNew.good {fr tn : Int} {M M' : Mem} {d : Nat} (h1 : okSize fr = true) (h2 : okSize tn = true) (hs : More M M') : WNew fr tn M (.tuple #[dp d, .int .i64 0]) M' := by
  unfold WNew
  rw [h1, h2]
  exact ⟨⟨_, rfl, d, rfl⟩, hs⟩
theorem size_bad {n : Int} (h : n < 1 ∨ 1024 < n) : okSize n = false := by
  unfold okSize
  rcases h with h | h
  · rw [decide_eq_false (by omega)]; rfl
  · rw [decide_eq_false (p := n ≤ 1024) (by omega), Bool.and_false]
theorem size_of (n : Nat) (h : n ≤ 1024) : okSize (n : Int) = decide (13 ≤ n) := by
  unfold okSize
  rw [decide_eq_true (p := (n : Int) ≤ 1024) (by omega), Bool.and_true, decide_eq_decide]
  omega
def WRound (bw s : Nat) (nv : Value) (tn fr : Int) (i : Nat) (M' : Mem) : Prop := ∃ d0 p0 d1 p1 sv rv, M'.get bw = some (.cells false s (wC d0 p0 d1 p1 sv rv nv)) ∧ (i = 0 → d0 = .pointer none ∧ p0 = .pointer none ∧ rv = .pointer none) ∧ (i ≤ 1 → d1 = .pointer none ∧ p1 = .pointer none ∧ sv = .pointer none) ∧ (1 ≤ i → okSize tn = true) ∧ (2 ≤ i → okSize fr = true)
set_option maxRecDepth 100000 in
set_option maxHeartbeats 16000000 in
theorem wnew_spec (M : Mem) (fr tn : Int) : Abs.Spec Tryz.prog 5 [.agg #[.string ⟨#[]⟩, .int .i64 fr, .int .i64 tn, .int .i64 0, .int .i64 0]] M fun u M' => WNew fr tn M u M' := by
  have bx := bx_Cfg #[.string ⟨#[]⟩, .int .i64 fr, .int .i64 tn, .int .i64 0, .int .i64 0] rfl
  generalize aStride Tryz.prog 34 = s1 at bx
  have rF : rowIn 2 3 (some (.cells false s1 [.string ⟨#[]⟩, .int .i64 fr, .int .i64 tn, .int .i64 0, .int .i64 0])) = some (.agg #[.int .i64 0, .int .i64 0]) := rfl
  have ldF : ∀ (get : Nat → Option Blk) (b o : Nat), gLoad Tryz.prog get 32 (.pointer (some ⟨b, o, none⟩)) = rowIn 2 o (get b) := fun get b o => ld_row Tryz.underlying32 (row_struct _) (show Tryz.prog.info? 32 = some Tryz.t32 by kernel_rfl) rfl get b o
  have c0 : cellIn 0 (some (.cells false s1 [.string ⟨#[]⟩, .int .i64 fr, .int .i64 tn, .int .i64 0, .int .i64 0])) = some (.string ⟨#[]⟩) := rfl
  have c1 : cellIn 1 (some (.cells false s1 [.string ⟨#[]⟩, .int .i64 fr, .int .i64 tn, .int .i64 0, .int .i64 0])) = some (.int .i64 fr) := rfl
  have c2 : cellIn 2 (some (.cells false s1 [.string ⟨#[]⟩, .int .i64 fr, .int .i64 tn, .int .i64 0, .int .i64 0])) = some (.int .i64 tn) := rfl
  have bW : ∀ d : Nat, aBuild Tryz.prog 75 [(0, .string ⟨#[]⟩), (4, dp d)] = some (.agg (wC (.pointer none) (.pointer none) (.pointer none) (.pointer none) (.pointer none) (.pointer none) (dp d)).toArray) := fun d => by kernel_rfl
  have xW : ∀ d : Nat, nBox Tryz.prog 75 (.agg (wC (.pointer none) (.pointer none) (.pointer none) (.pointer none) (.pointer none) (.pointer none) (dp d)).toArray) = some (.cells false (aStride Tryz.prog 75) (wC (.pointer none) (.pointer none) (.pointer none) (.pointer none) (.pointer none) (.pointer none) (dp d))) := fun d => nBox_row 75 rfl
  generalize aStride Tryz.prog 75 = s2 at xW
  have bI : aBuild Tryz.prog 37 [(0, .int .i64 tn), (1, .int .i64 fr)] = some (.agg #[.int .i64 tn, .int .i64 fr]) := by kernel_rfl
  have x0 : aIndex Tryz.prog 37 (.agg #[.int .i64 tn, .int .i64 fr]) (.int .i64 0) = some (.int .i64 tn) := by kernel_rfl
  have x1 : aIndex Tryz.prog 37 (.agg #[.int .i64 tn, .int .i64 fr]) (.int .i64 1) = some (.int .i64 fr) := by kernel_rfl
  obtain ⟨b1, hb1⟩ : ∃ b, b = M.size := ⟨_, rfl⟩
  obtain ⟨M1, hM1⟩ : ∃ M1, M1 = M.push (.cells false s1 [.string ⟨#[]⟩, .int .i64 fr, .int .i64 tn, .int .i64 0, .int .i64 0]) := ⟨_, rfl⟩
  have g1 : M1.get b1 = some (.cells false s1 [.string ⟨#[]⟩, .int .i64 fr, .int .i64 tn, .int .i64 0, .int .i64 0]) := by rw [hM1, hb1, Mem.get_push_new]
  have z1 : M1.size = M.size + 1 := by rw [hM1, Mem.size_push]
  have mo1 : More M M1 := by rw [hM1]; exact More.push _ _
  refine Abs.Spec.walkM Tryz.func5 (by rfl) _ Tryz.results5 _ Tryz.ntmps5 (by simp) ?_
  intro _ _ _
  refine CW_seq (CW_region ?_)
  simp only [zZ, reduceIte, Nat.reduceLT, Int.reduceToNat, Int.reduceLE, Int.reduceEq, Int.reduceLT, Nat.reduceEqDiff, Nat.reduceAdd, zDk, pd_eql, pd_neq, pd_eql0, pd_neq0, zPt, bx]
  rw [← hM1, ← hb1]
  refine MW_mid (fun f M' => ∃ (bw dn : Nat), f = [(1, .pointer (some ⟨b1, 0, none⟩)), (4, dp bw)] ∧ M'.get b1 = some (.cells false s1 [.string ⟨#[]⟩, .int .i64 fr, .int .i64 tn, .int .i64 0, .int .i64 0]) ∧ M'.get bw = some (.cells false s2 (wC (.pointer none) (.pointer none) (.pointer none) (.pointer none) (.pointer none) (.pointer none) (dp dn))) ∧ M.size ≤ bw ∧ More M M') ?_ ?_
  · refine CW_two hmix [0, 2, 3] 4 1 [5, 6, 7] 8 (by kernel_rfl) ?_ ?_
    · simp only [zZ, reduceIte, Nat.reduceLT, Int.reduceToNat, Int.reduceLE, Int.reduceEq, Int.reduceLT, Nat.reduceEqDiff, Nat.reduceAdd, zDk, pd_eql, pd_neq, pd_eql0, pd_neq0, zPt, sPick, Abs.sPick, List.cons_append, List.nil_append, g1, ldF, rF]
      refine ⟨by kernel_rfl, _, nnew_spec M1, ?_⟩
      rintro _ M2 ⟨⟨d, rfl⟩, mo⟩
      have g12 := mo.get _ _ g1
      simp only [zZ, reduceIte, Nat.reduceLT, Int.reduceToNat, Int.reduceLE, Int.reduceEq, Int.reduceLT, Nat.reduceEqDiff, Nat.reduceAdd, zDk, pd_eql, pd_neq, pd_eql0, pd_neq0, zPt, sPick, Abs.sPick, g12, c0, bW, xW]
      refine ⟨[1, 4], ?_⟩
      simp only [zZ, reduceIte, Nat.reduceLT, Int.reduceToNat, Int.reduceLE, Int.reduceEq, Int.reduceLT, Nat.reduceEqDiff, Nat.reduceAdd, keepF]
      exact ⟨_, Thin.refl _, M2.size, d, rfl, by rw [Mem.get_push_old (Mem.get_lt g12)]; exact g12, Mem.get_push_new _ _, by have := mo.size; omega, (mo1.trans mo).trans (More.push _ _)⟩
    · simp only [zZ, reduceIte, Nat.reduceLT, Int.reduceToNat, Int.reduceLE, Int.reduceEq, Int.reduceLT, Nat.reduceEqDiff, Nat.reduceAdd, zDk, pd_eql, pd_neq, pd_eql0, pd_neq0, zPt, sPick, Abs.sPick, List.cons_append, List.nil_append, g1, ldF, rF, c0]
      refine ⟨by kernel_rfl, _, nnew_spec M1, ?_⟩
      rintro _ M2 ⟨⟨d, rfl⟩, mo⟩
      have g12 := mo.get _ _ g1
      simp only [zZ, reduceIte, Nat.reduceLT, Int.reduceToNat, Int.reduceLE, Int.reduceEq, Int.reduceLT, Nat.reduceEqDiff, Nat.reduceAdd, zDk, pd_eql, pd_neq, pd_eql0, pd_neq0, zPt, sPick, Abs.sPick, bW, xW]
      refine ⟨[1, 4], ?_⟩
      simp only [zZ, reduceIte, Nat.reduceLT, Int.reduceToNat, Int.reduceLE, Int.reduceEq, Int.reduceLT, Nat.reduceEqDiff, Nat.reduceAdd, keepF]
      exact ⟨_, Thin.refl _, M2.size, d, rfl, by rw [Mem.get_push_old (Mem.get_lt g12)]; exact g12, Mem.get_push_new _ _, by have := mo.size; omega, (mo1.trans mo).trans (More.push _ _)⟩
  rintro f M3 ⟨bw, dn, rfl, g13, gw, hbw, hz⟩
  refine MW_mid (fun f M' => f = [(4, dp bw)] ∧ okSize tn = true ∧ okSize fr = true ∧ More M M') ?_ ?_
  · refine CW_seq (CW_region ?_)
    simp only [zZ, reduceIte, Nat.reduceLT, Int.reduceToNat, Int.reduceLE, Int.reduceEq, Int.reduceLT, Nat.reduceEqDiff, Nat.reduceAdd, zDk, pd_eql, pd_neq, pd_eql0, pd_neq0, zPt, g13, c1, c2, bI]
    refine CW_block (MW_loop (fun j f M' => ∃ i : Nat, j = 2 - i ∧ f = [(4, dp bw), (21, .agg #[.int .i64 tn, .int .i64 fr]), (22, .int .i64 (i : Nat))] ∧ i ≤ 2 ∧ WRound bw s2 (dp dn) tn fr i M' ∧ More M M') 2 ?_ ?_)
    · refine ⟨[4, 21, 22], ?_⟩
      simp only [zZ, reduceIte, Nat.reduceLT, Int.reduceToNat, Int.reduceLE, Int.reduceEq, Int.reduceLT, Nat.reduceEqDiff, Nat.reduceAdd, keepF]
      exact ⟨M3, Thin.refl _, 0, rfl, rfl, by omega, ⟨_, _, _, _, _, _, gw, fun _ => ⟨rfl, rfl, rfl⟩, fun _ => ⟨rfl, rfl, rfl⟩, fun h => by omega, fun h => by omega⟩, hz⟩
    · rintro j f M' ⟨i, rfl, rfl, hi, ⟨d0, p0, d1, p1, sv, rv, hg, w0, w1, w2, w3⟩, hz'⟩
      have hlw := Mem.get_lt hg
      refine CW_seq (CW_region ?_)
      simp only [zZ, reduceIte, Nat.reduceLT, Int.reduceToNat, Int.reduceLE, Int.reduceEq, Int.reduceLT, Nat.reduceEqDiff, Nat.reduceAdd, zDk, pd_eql, pd_neq, pd_eql0, pd_neq0, zPt]
      refine CW_seq (CW_cond (decide ((i : Int) < 2)) (by rfl) (fun hq => CW_skip ?_) (fun hq => CW_exit ?_))
      · have hi2 := of_decide_eq_true hq
        have n10 : ((1 : Int) != 0) = true := rfl
        have n00 : ((0 : Int) != 0) = false := rfl
        have hdb : dp bw = .pointer (some ⟨bw, 0, none⟩) := rfl
        have pdc : ∀ p, (dp p).cells.toList = [dp p] := fun _ => rfl
        simp only [zZ, reduceIte, Nat.reduceLT, Int.reduceToNat, Int.reduceLE, Int.reduceEq, Int.reduceLT, Nat.reduceEqDiff, Nat.reduceAdd]
        by_cases h0 : i = 0
        · subst h0
          obtain ⟨rfl, rfl, rfl⟩ := w0 rfl
          obtain ⟨rfl, rfl, rfl⟩ := w1 (by omega)
          have e0 : ((0 : Nat) : Int) = 0 := rfl
          have ia : ∀ (b o : Nat), aIndexAddr Tryz.prog 71 (.pointer (some ⟨b, o, none⟩)) (.int .i64 0) = some (.pointer (some ⟨b, o, none⟩)) := fun _ _ => by kernel_rfl
          refine CW_seq (CW_block (CW_seq (CW_region ?_)))
          simp only [zZ, reduceIte, Nat.reduceLT, Int.reduceToNat, Int.reduceLE, Int.reduceEq, Int.reduceLT, Nat.reduceEqDiff, Nat.reduceAdd, zDk, pd_eql, pd_neq, pd_eql0, pd_neq0, zPt, e0, x0]
          refine CW_seq (CW_region ?_)
          simp only [zZ, reduceIte, Nat.reduceLT, Int.reduceToNat, Int.reduceLE, Int.reduceEq, Int.reduceLT, Nat.reduceEqDiff, Nat.reduceAdd, zDk, pd_eql, pd_neq, pd_eql0, pd_neq0, zPt]
          by_cases hbad : tn < 1 ∨ 1024 < tn
          · refine ⟨by kernel_rfl, _, new_bad M' tn hbad, ?_⟩
            rintro _ M4 ⟨rfl, e4⟩; replace e4 := e4.symm; subst e4
            simp only [zZ, reduceIte, Nat.reduceLT, Int.reduceToNat, Int.reduceLE, Int.reduceEq, Int.reduceLT, Nat.reduceEqDiff, Nat.reduceAdd, zDk, pd_eql, pd_neq, pd_eql0, pd_neq0, zPt]
            refine CW_seq (CW_seq (CW_region ?_))
            simp only [zZ, reduceIte, Nat.reduceLT, Int.reduceToNat, Int.reduceLE, Int.reduceEq, Int.reduceLT, Nat.reduceEqDiff, Nat.reduceAdd, zDk, pd_eql, pd_neq, pd_eql0, pd_neq0, zPt, n10]
            refine CW_cond true (by rfl) (fun _ => CW_seq (CW_region ?_)) (fun h => by cases h)
            simp only [zZ, reduceIte, Nat.reduceLT, Int.reduceToNat, Int.reduceLE, Int.reduceEq, Int.reduceLT, Nat.reduceEqDiff, Nat.reduceAdd, zDk, pd_eql, pd_neq, pd_eql0, pd_neq0, zPt]
            refine CW_ret ?_
            simp only [zZ, reduceIte, Nat.reduceLT, Int.reduceToNat, Int.reduceLE, Int.reduceEq, Int.reduceLT, Nat.reduceEqDiff, Nat.reduceAdd, zDk, pd_eql, pd_neq, pd_eql0, pd_neq0, zPt, mEnd, sAnswer, sAnswer.sRes]
            exact ⟨_, Thin.refl _, WNew.bad (.inr (size_bad hbad)) hz'⟩
          · obtain ⟨n, rfl⟩ : ∃ n : Nat, tn = (n : Int) := ⟨tn.toNat, by omega⟩
            refine ⟨by kernel_rfl, _, new_spec M' n (by omega) (by omega), ?_⟩
            rintro _ M4 ⟨p, q, g, rfl, hd, hp, hq2, hg2, ho, hs⟩
            have hg4 := ho _ _ (by simp) hg
            simp only [zZ, reduceIte, Nat.reduceLT, Int.reduceToNat, Int.reduceLE, Int.reduceEq, Int.reduceLT, Nat.reduceEqDiff, Nat.reduceAdd, zDk, pd_eql, pd_neq, pd_eql0, pd_neq0, zPt]
            refine CW_seq (CW_seq (CW_region ?_))
            simp only [zZ, reduceIte, Nat.reduceLT, Int.reduceToNat, Int.reduceLE, Int.reduceEq, Int.reduceLT, Nat.reduceEqDiff, Nat.reduceAdd, zDk, pd_eql, pd_neq, pd_eql0, pd_neq0, zPt, n00]
            refine CW_cond false (by rfl) (fun h => by cases h) (fun _ => CW_skip ?_)
            simp only [zZ, reduceIte, Nat.reduceLT, Int.reduceToNat, Int.reduceLE, Int.reduceEq, Int.reduceLT, Nat.reduceEqDiff, Nat.reduceAdd]
            have put : ∀ (X : Mem), putIn 1 X bw 1 [dp p] (some (.cells false s2 (wC (.pointer none) (.pointer none) (.pointer none) (.pointer none) (.pointer none) (.pointer none) (dp dn)))) = some (X.set bw (some (.cells false s2 (wC (dp p) (.pointer none) (.pointer none) (.pointer none) (.pointer none) (.pointer none) (dp dn))))) := fun _ => rfl
            obtain ⟨M5, hM5⟩ : ∃ M5, M5 = M4.set bw (some (.cells false s2 (wC (dp p) (.pointer none) (.pointer none) (.pointer none) (.pointer none) (.pointer none) (dp dn)))) := ⟨_, rfl⟩
            have hg5 : M5.get bw = some (.cells false s2 (wC (dp p) (.pointer none) (.pointer none) (.pointer none) (.pointer none) (.pointer none) (dp dn))) := by rw [hM5]; exact Mem.get_set_same hg4 _
            have hd5 : DskAt M5 p q g (newDsk n) := hd.only (l := [bw]) (fun b x hb hx => by rw [hM5, Mem.get_set_ne (by simp at hb; exact fun e => hb e.symm)]; exact hx) (by simp; omega) (by simp; omega) (by simp; omega)
            refine CW_seq (CW_region ?_)
            simp only [zZ, reduceIte, Nat.reduceLT, Int.reduceToNat, Int.reduceLE, Int.reduceEq, Int.reduceLT, Nat.reduceEqDiff, Nat.reduceAdd, zDk, pd_eql, pd_neq, pd_eql0, pd_neq0, zPt, hdb, ia, hg4, pdc, put]
            rw [← hM5, ← hdb]
            refine CW_seq (CW_region ?_)
            simp only [zZ, reduceIte, Nat.reduceLT, Int.reduceToNat, Int.reduceLE, Int.reduceEq, Int.reduceLT, Nat.reduceEqDiff, Nat.reduceAdd, zDk, pd_eql, pd_neq, pd_eql0, pd_neq0, zPt]
            refine ⟨by kernel_rfl, _, wopen0 M5 bw s2 p q g n hd5 (by omega) (by omega) (dp dn) hg5 (by simp; omega), ?_⟩
            rintro _ M6 ⟨rfl, ⟨pv, rv', hg6⟩, hO6, hs6⟩
            have hz6 : More M M6 := ⟨fun c x hc => by
              have hlc := Mem.get_lt hc
              have hms := hz'.size
              refine hO6 c x (by simp; omega) ?_
              rw [hM5, Mem.get_set_ne (by omega)]
              exact ho c x (by simp) (hz'.get c x hc), by rw [hM5, Mem.size_set] at hs6; have := hz'.size; omega⟩
            have hsz := size_of n (by omega)
            by_cases h13 : n < 13
            · rw [if_pos h13]
              simp only [zZ, reduceIte, Nat.reduceLT, Int.reduceToNat, Int.reduceLE, Int.reduceEq, Int.reduceLT, Nat.reduceEqDiff, Nat.reduceAdd, zDk, pd_eql, pd_neq, pd_eql0, pd_neq0, zPt]
              refine CW_seq (CW_region ?_)
              simp only [zZ, reduceIte, Nat.reduceLT, Int.reduceToNat, Int.reduceLE, Int.reduceEq, Int.reduceLT, Nat.reduceEqDiff, Nat.reduceAdd, zDk, pd_eql, pd_neq, pd_eql0, pd_neq0, zPt, n10]
              refine CW_cond true (by rfl) (fun _ => CW_seq (CW_region ?_)) (fun h => by cases h)
              simp only [zZ, reduceIte, Nat.reduceLT, Int.reduceToNat, Int.reduceLE, Int.reduceEq, Int.reduceLT, Nat.reduceEqDiff, Nat.reduceAdd, zDk, pd_eql, pd_neq, pd_eql0, pd_neq0, zPt]
              refine CW_ret ?_
              simp only [zZ, reduceIte, Nat.reduceLT, Int.reduceToNat, Int.reduceLE, Int.reduceEq, Int.reduceLT, Nat.reduceEqDiff, Nat.reduceAdd, zDk, pd_eql, pd_neq, pd_eql0, pd_neq0, zPt, mEnd, sAnswer, sAnswer.sRes]
              exact ⟨_, Thin.refl _, WNew.bad (.inr (by rw [hsz, decide_eq_false (by omega)])) hz6⟩
            · rw [if_neg h13]
              simp only [zZ, reduceIte, Nat.reduceLT, Int.reduceToNat, Int.reduceLE, Int.reduceEq, Int.reduceLT, Nat.reduceEqDiff, Nat.reduceAdd, zDk, pd_eql, pd_neq, pd_eql0, pd_neq0, zPt]
              refine CW_seq (CW_region ?_)
              simp only [zZ, reduceIte, Nat.reduceLT, Int.reduceToNat, Int.reduceLE, Int.reduceEq, Int.reduceLT, Nat.reduceEqDiff, Nat.reduceAdd, zDk, pd_eql, pd_neq, pd_eql0, pd_neq0, zPt, n00]
              refine CW_cond false (by rfl) (fun h => by cases h) (fun _ => CW_skip ?_)
              simp only [zZ, reduceIte, Nat.reduceLT, Int.reduceToNat, Int.reduceLE, Int.reduceEq, Int.reduceLT, Nat.reduceEqDiff, Nat.reduceAdd]
              have ww : IntKind.i64.wrap ((0 : Int) + 1) = 1 := rfl
              refine CW_region ?_
              simp only [zZ, reduceIte, Nat.reduceLT, Int.reduceToNat, Int.reduceLE, Int.reduceEq, Int.reduceLT, Nat.reduceEqDiff, Nat.reduceAdd, zDk, pd_eql, pd_neq, pd_eql0, pd_neq0, zPt, ww]
              refine ⟨[4, 21, 22], ?_⟩
              simp only [zZ, reduceIte, Nat.reduceLT, Int.reduceToNat, Int.reduceLE, Int.reduceEq, Int.reduceLT, Nat.reduceEqDiff, Nat.reduceAdd, keepF]
              exact ⟨_, Thin.refl _, 2 - 1, ⟨1, rfl, rfl, by omega, ⟨_, _, _, _, _, _, hg6, fun h => by omega, fun _ => ⟨rfl, rfl, rfl⟩, fun _ => by rw [hsz, decide_eq_true (by omega)], fun h => by omega⟩, hz6⟩, by omega⟩
        · obtain rfl : i = 1 := by omega
          obtain ⟨rfl, rfl, rfl⟩ := w1 (by omega)
          have htn := w2 (by omega)
          have e0 : ((1 : Nat) : Int) = 1 := rfl
          have ia : ∀ (b o : Nat), aIndexAddr Tryz.prog 71 (.pointer (some ⟨b, o, none⟩)) (.int .i64 1) = some (.pointer (some ⟨b, o + 2, none⟩)) := fun _ _ => by kernel_rfl
          refine CW_seq (CW_block (CW_seq (CW_region ?_)))
          simp only [zZ, reduceIte, Nat.reduceLT, Int.reduceToNat, Int.reduceLE, Int.reduceEq, Int.reduceLT, Nat.reduceEqDiff, Nat.reduceAdd, zDk, pd_eql, pd_neq, pd_eql0, pd_neq0, zPt, e0, x1]
          refine CW_seq (CW_region ?_)
          simp only [zZ, reduceIte, Nat.reduceLT, Int.reduceToNat, Int.reduceLE, Int.reduceEq, Int.reduceLT, Nat.reduceEqDiff, Nat.reduceAdd, zDk, pd_eql, pd_neq, pd_eql0, pd_neq0, zPt]
          by_cases hbad : fr < 1 ∨ 1024 < fr
          · refine ⟨by kernel_rfl, _, new_bad M' fr hbad, ?_⟩
            rintro _ M4 ⟨rfl, e4⟩; replace e4 := e4.symm; subst e4
            simp only [zZ, reduceIte, Nat.reduceLT, Int.reduceToNat, Int.reduceLE, Int.reduceEq, Int.reduceLT, Nat.reduceEqDiff, Nat.reduceAdd, zDk, pd_eql, pd_neq, pd_eql0, pd_neq0, zPt]
            refine CW_seq (CW_seq (CW_region ?_))
            simp only [zZ, reduceIte, Nat.reduceLT, Int.reduceToNat, Int.reduceLE, Int.reduceEq, Int.reduceLT, Nat.reduceEqDiff, Nat.reduceAdd, zDk, pd_eql, pd_neq, pd_eql0, pd_neq0, zPt, n10]
            refine CW_cond true (by rfl) (fun _ => CW_seq (CW_region ?_)) (fun h => by cases h)
            simp only [zZ, reduceIte, Nat.reduceLT, Int.reduceToNat, Int.reduceLE, Int.reduceEq, Int.reduceLT, Nat.reduceEqDiff, Nat.reduceAdd, zDk, pd_eql, pd_neq, pd_eql0, pd_neq0, zPt]
            refine CW_ret ?_
            simp only [zZ, reduceIte, Nat.reduceLT, Int.reduceToNat, Int.reduceLE, Int.reduceEq, Int.reduceLT, Nat.reduceEqDiff, Nat.reduceAdd, zDk, pd_eql, pd_neq, pd_eql0, pd_neq0, zPt, mEnd, sAnswer, sAnswer.sRes]
            exact ⟨_, Thin.refl _, WNew.bad (.inl (size_bad hbad)) hz'⟩
          · obtain ⟨n, rfl⟩ : ∃ n : Nat, fr = (n : Int) := ⟨fr.toNat, by omega⟩
            refine ⟨by kernel_rfl, _, new_spec M' n (by omega) (by omega), ?_⟩
            rintro _ M4 ⟨p, q, g, rfl, hd, hp, hq2, hg2, ho, hs⟩
            have hg4 := ho _ _ (by simp) hg
            simp only [zZ, reduceIte, Nat.reduceLT, Int.reduceToNat, Int.reduceLE, Int.reduceEq, Int.reduceLT, Nat.reduceEqDiff, Nat.reduceAdd, zDk, pd_eql, pd_neq, pd_eql0, pd_neq0, zPt]
            refine CW_seq (CW_seq (CW_region ?_))
            simp only [zZ, reduceIte, Nat.reduceLT, Int.reduceToNat, Int.reduceLE, Int.reduceEq, Int.reduceLT, Nat.reduceEqDiff, Nat.reduceAdd, zDk, pd_eql, pd_neq, pd_eql0, pd_neq0, zPt, n00]
            refine CW_cond false (by rfl) (fun h => by cases h) (fun _ => CW_skip ?_)
            simp only [zZ, reduceIte, Nat.reduceLT, Int.reduceToNat, Int.reduceLE, Int.reduceEq, Int.reduceLT, Nat.reduceEqDiff, Nat.reduceAdd]
            have put : ∀ (X : Mem), putIn 1 X bw 3 [dp p] (some (.cells false s2 (wC d0 p0 (.pointer none) (.pointer none) (.pointer none) rv (dp dn)))) = some (X.set bw (some (.cells false s2 (wC d0 p0 (dp p) (.pointer none) (.pointer none) rv (dp dn))))) := fun _ => rfl
            obtain ⟨M5, hM5⟩ : ∃ M5, M5 = M4.set bw (some (.cells false s2 (wC d0 p0 (dp p) (.pointer none) (.pointer none) rv (dp dn)))) := ⟨_, rfl⟩
            have hg5 : M5.get bw = some (.cells false s2 (wC d0 p0 (dp p) (.pointer none) (.pointer none) rv (dp dn))) := by rw [hM5]; exact Mem.get_set_same hg4 _
            have hd5 : DskAt M5 p q g (newDsk n) := hd.only (l := [bw]) (fun b x hb hx => by rw [hM5, Mem.get_set_ne (by simp at hb; exact fun e => hb e.symm)]; exact hx) (by simp; omega) (by simp; omega) (by simp; omega)
            refine CW_seq (CW_region ?_)
            simp only [zZ, reduceIte, Nat.reduceLT, Int.reduceToNat, Int.reduceLE, Int.reduceEq, Int.reduceLT, Nat.reduceEqDiff, Nat.reduceAdd, zDk, pd_eql, pd_neq, pd_eql0, pd_neq0, zPt, hdb, ia, hg4, pdc, put]
            rw [← hM5, ← hdb]
            refine CW_seq (CW_region ?_)
            simp only [zZ, reduceIte, Nat.reduceLT, Int.reduceToNat, Int.reduceLE, Int.reduceEq, Int.reduceLT, Nat.reduceEqDiff, Nat.reduceAdd, zDk, pd_eql, pd_neq, pd_eql0, pd_neq0, zPt]
            refine ⟨by kernel_rfl, _, wopen1 M5 bw s2 p q g n d0 p0 rv hd5 (by omega) (by omega) (dp dn) hg5 (by simp; omega), ?_⟩
            rintro _ M6 ⟨rfl, ⟨pv, sv', hg6⟩, hO6, hs6⟩
            have hz6 : More M M6 := ⟨fun c x hc => by
              have hlc := Mem.get_lt hc
              have hms := hz'.size
              refine hO6 c x (by simp; omega) ?_
              rw [hM5, Mem.get_set_ne (by omega)]
              exact ho c x (by simp) (hz'.get c x hc), by rw [hM5, Mem.size_set] at hs6; have := hz'.size; omega⟩
            have hsz := size_of n (by omega)
            by_cases h13 : n < 13
            · rw [if_pos h13]
              simp only [zZ, reduceIte, Nat.reduceLT, Int.reduceToNat, Int.reduceLE, Int.reduceEq, Int.reduceLT, Nat.reduceEqDiff, Nat.reduceAdd, zDk, pd_eql, pd_neq, pd_eql0, pd_neq0, zPt]
              refine CW_seq (CW_region ?_)
              simp only [zZ, reduceIte, Nat.reduceLT, Int.reduceToNat, Int.reduceLE, Int.reduceEq, Int.reduceLT, Nat.reduceEqDiff, Nat.reduceAdd, zDk, pd_eql, pd_neq, pd_eql0, pd_neq0, zPt, n10]
              refine CW_cond true (by rfl) (fun _ => CW_seq (CW_region ?_)) (fun h => by cases h)
              simp only [zZ, reduceIte, Nat.reduceLT, Int.reduceToNat, Int.reduceLE, Int.reduceEq, Int.reduceLT, Nat.reduceEqDiff, Nat.reduceAdd, zDk, pd_eql, pd_neq, pd_eql0, pd_neq0, zPt]
              refine CW_ret ?_
              simp only [zZ, reduceIte, Nat.reduceLT, Int.reduceToNat, Int.reduceLE, Int.reduceEq, Int.reduceLT, Nat.reduceEqDiff, Nat.reduceAdd, zDk, pd_eql, pd_neq, pd_eql0, pd_neq0, zPt, mEnd, sAnswer, sAnswer.sRes]
              exact ⟨_, Thin.refl _, WNew.bad (.inl (by rw [hsz, decide_eq_false (by omega)])) hz6⟩
            · rw [if_neg h13]
              simp only [zZ, reduceIte, Nat.reduceLT, Int.reduceToNat, Int.reduceLE, Int.reduceEq, Int.reduceLT, Nat.reduceEqDiff, Nat.reduceAdd, zDk, pd_eql, pd_neq, pd_eql0, pd_neq0, zPt]
              refine CW_seq (CW_region ?_)
              simp only [zZ, reduceIte, Nat.reduceLT, Int.reduceToNat, Int.reduceLE, Int.reduceEq, Int.reduceLT, Nat.reduceEqDiff, Nat.reduceAdd, zDk, pd_eql, pd_neq, pd_eql0, pd_neq0, zPt, n00]
              refine CW_cond false (by rfl) (fun h => by cases h) (fun _ => CW_skip ?_)
              simp only [zZ, reduceIte, Nat.reduceLT, Int.reduceToNat, Int.reduceLE, Int.reduceEq, Int.reduceLT, Nat.reduceEqDiff, Nat.reduceAdd]
              have ww : IntKind.i64.wrap ((1 : Int) + 1) = 2 := rfl
              refine CW_region ?_
              simp only [zZ, reduceIte, Nat.reduceLT, Int.reduceToNat, Int.reduceLE, Int.reduceEq, Int.reduceLT, Nat.reduceEqDiff, Nat.reduceAdd, zDk, pd_eql, pd_neq, pd_eql0, pd_neq0, zPt, ww]
              refine ⟨[4, 21, 22], ?_⟩
              simp only [zZ, reduceIte, Nat.reduceLT, Int.reduceToNat, Int.reduceLE, Int.reduceEq, Int.reduceLT, Nat.reduceEqDiff, Nat.reduceAdd, keepF]
              exact ⟨_, Thin.refl _, 2 - 2, ⟨2, rfl, rfl, by omega, ⟨_, _, _, _, _, _, hg6, fun h => by omega, fun h => by omega, fun _ => htn, fun _ => by rw [hsz, decide_eq_true (by omega)]⟩, hz6⟩, by omega⟩
      · have hi2 := of_decide_eq_false hq
        simp only [zZ, reduceIte, Nat.reduceLT, Int.reduceToNat, Int.reduceLE, Int.reduceEq, Int.reduceLT, Nat.reduceEqDiff, Nat.reduceAdd]
        refine ⟨[4], ?_⟩
        simp only [zZ, reduceIte, Nat.reduceLT, Int.reduceToNat, Int.reduceLE, Int.reduceEq, Int.reduceLT, Nat.reduceEqDiff, Nat.reduceAdd, keepF]
        exact ⟨_, Thin.refl _, w2 (by omega), w3 (by omega), hz'⟩
  · rintro f M7 ⟨rfl, htn, hfr, hz7⟩
    refine CW_seq (CW_region ?_)
    simp only [zZ, reduceIte, Nat.reduceLT, Int.reduceToNat, Int.reduceLE, Int.reduceEq, Int.reduceLT, Nat.reduceEqDiff, Nat.reduceAdd, zDk, pd_eql, pd_neq, pd_eql0, pd_neq0, zPt]
    refine CW_ret ?_
    simp only [zZ, reduceIte, Nat.reduceLT, Int.reduceToNat, Int.reduceLE, Int.reduceEq, Int.reduceLT, Nat.reduceEqDiff, Nat.reduceAdd, zDk, pd_eql, pd_neq, pd_eql0, pd_neq0, zPt, mEnd, sAnswer, sAnswer.sRes]
    exact ⟨_, Thin.refl _, WNew.good hfr htn hz7⟩
end Go.Proofs.YtfdijpacbhomjaaGreatDoor
namespace Go.Proofs.YtfdijpacbhomjaaGreatDoor
open Go.RowKit Abs
set_option maxRecDepth 100000 in
theorem arg_step {m : Mem} {B : Nat} {v : Value} (h : ArgOf Tryz.prog m B 26 v) :
    ∃ c0 c1 c2 c3 c4 c5 c6 : Value, v = .agg #[c0, c1, c2, c3, c4, c5, c6] ∧ oneAll [c0, c1, c2, c3, c4, c5, c6] = true := by
  obtain ⟨cs, rfl, h2⟩ := arg_row Tryz.underlying26 h
  obtain ⟨hl, hf⟩ := h2.inv_struct Tryz.underlying26
  have hl : cs.length = 7 := hl
  match cs, hl with
  | [c0, c1, c2, c3, c4, c5, c6], _ =>
  obtain ⟨a0, r0, _⟩ := (hf 0 _ rfl).inv_int Tryz.underlying3
  obtain ⟨a1, r1, _⟩ := (hf 1 _ rfl).inv_int Tryz.underlying3
  obtain ⟨v2, k2, cells, hv, hr, _⟩ := (hf 2 _ rfl).inv_slice Tryz.underlying22
  obtain ⟨a3, r3, _⟩ := (hf 3 _ rfl).inv_string Tryz.underlying9
  obtain ⟨hl4, hf4⟩ := (hf 4 _ rfl).inv_struct Tryz.underlying24
  obtain ⟨a4, r4⟩ := (hf4 0 _ rfl).inv_bool Tryz.underlying4
  obtain ⟨a5, r5, _⟩ := (hf4 1 _ rfl).inv_int Tryz.underlying3
  obtain ⟨a6, r6, _⟩ := (hf4 2 _ rfl).inv_int Tryz.underlying3
  have hv2 : c2 = v2 := by
    have h : [c2] = [v2] := hv
    simpa using h
  obtain ⟨p, k, e, _⟩ := id hr
  have q0 : c0 = .int .i64 a0 := (List.cons.inj (show [c0] = [.int .i64 a0] from r0)).1
  have q1 : c1 = .int .i64 a1 := (List.cons.inj (show [c1] = [.int .i64 a1] from r1)).1
  have q3 : c3 = .string a3 := (List.cons.inj (show [c3] = [.string a3] from r3)).1
  have q4 : c4 = .bool a4 := (List.cons.inj (show [c4] = [.bool a4] from r4)).1
  have q5 : c5 = .int .i64 a5 := (List.cons.inj (show [c5] = [.int .i64 a5] from r5)).1
  have q6 : c6 = .int .i64 a6 := (List.cons.inj (show [c6] = [.int .i64 a6] from r6)).1
  exact ⟨c0, c1, c2, c3, c4, c5, c6, rfl, by rw [q0, q1, q3, q4, q5, q6, hv2, e]; rfl⟩
end Go.Proofs.YtfdijpacbhomjaaGreatDoor
namespace Go.Proofs.YtfdijpacbhomjaaGreatDoor
open Go
def pieces (c : UInt8) : List UInt8 → List UInt8 → List (List UInt8)
  | [], cur => [cur]
  | b :: r, cur => if b = c then cur :: pieces c r [] else pieces c r (cur ++ [b])
def cut1 (c : UInt8) : List UInt8 → List UInt8 → List UInt8 × List UInt8 × Bool
  | [], cur => (cur, [], false)
  | b :: r, cur => if b = c then (cur, r, true) else cut1 c r (cur ++ [b])
theorem index_miss (l : List UInt8) (c : UInt8) : Lib.indexByte l c = -1 ∨ ∃ a b, l = a ++ c :: b ∧ c ∉ a ∧ Lib.indexByte l c = a.length := by
  induction l with
  | nil => exact .inl rfl
  | cons x r ih =>
    unfold Lib.indexByte
    by_cases hx : x = c
    · subst hx
      exact .inr ⟨[], r, rfl, by simp, by simp⟩
    · have hb : (x == c) = false := by simpa using hx
      rw [hb]
      simp only [Bool.false_eq_true, if_false]
      rcases ih with h | ⟨a, b, h1, h2, h3⟩
      · rw [h]; exact .inl rfl
      · refine .inr ⟨x :: a, b, by rw [h1]; rfl, by simp [h2, Ne.symm hx], ?_⟩
        have : (Lib.indexByte r c == -1) = false := by rw [h3]; simp
        rw [this, h3]
        simp
theorem index_not (l : List UInt8) (c : UInt8) (h : Lib.indexByte l c = -1) : c ∉ l := by
  induction l with
  | nil => simp
  | cons x r ih =>
    unfold Lib.indexByte at h
    by_cases hx : x = c
    · subst hx; simp at h
    · have hb : (x == c) = false := by simpa using hx
      rw [hb] at h
      simp only [Bool.false_eq_true, if_false] at h
      have hr : Lib.indexByte r c = -1 := by
        split at h
        · rename_i h'; simpa using h'
        · have := Lib.indexByte_ge r c; omega
      simp [ih hr, Ne.symm hx]
theorem pieces_not (c : UInt8) : ∀ (l cur : List UInt8), c ∉ l → pieces c l cur = [cur ++ l]
  | [], cur, _ => by simp [pieces]
  | b :: r, cur, h => by
    simp only [List.mem_cons, not_or] at h
    rw [pieces, if_neg (Ne.symm h.1), pieces_not c r _ h.2]; simp
theorem pieces_at (c : UInt8) : ∀ (a b cur : List UInt8), c ∉ a → pieces c (a ++ c :: b) cur = (cur ++ a) :: pieces c b []
  | [], b, cur, _ => by simp [pieces]
  | x :: r, b, cur, h => by
    simp only [List.mem_cons, not_or] at h
    rw [List.cons_append, pieces, if_neg (Ne.symm h.1), pieces_at c r b _ h.2]; simp
theorem cut1_not (c : UInt8) : ∀ (l cur : List UInt8), c ∉ l → cut1 c l cur = (cur ++ l, [], false)
  | [], cur, _ => by simp [cut1]
  | b :: r, cur, h => by
    simp only [List.mem_cons, not_or] at h
    rw [cut1, if_neg (Ne.symm h.1), cut1_not c r _ h.2]; simp
theorem cut1_at (c : UInt8) : ∀ (a b cur : List UInt8), c ∉ a → cut1 c (a ++ c :: b) cur = (cur ++ a, b, true)
  | [], b, cur, _ => by simp [cut1]
  | x :: r, b, cur, h => by
    simp only [List.mem_cons, not_or] at h
    rw [List.cons_append, cut1, if_neg (Ne.symm h.1), cut1_at c r b _ h.2]; simp
theorem cut_eq (l : List UInt8) (c : UInt8) : Lib.cut l [c] = cut1 c l [] := by
  unfold Lib.cut
  rw [Lib.index_one]
  rcases index_miss l c with h | ⟨a, b, h1, h2, h3⟩
  · rw [h, if_neg (by decide), cut1_not c l _ (index_not l c h)]; rfl
  · rw [h3, if_pos (by omega), h1, cut1_at c a b _ h2]; simp
end Go.Proofs.YtfdijpacbhomjaaGreatDoor
namespace Go.Proofs.YtfdijpacbhomjaaGreatDoor
open Go.RowKit Abs
def pathV (p : List UInt8) : Int := if p = [] ∨ 4096 < p.length ∨ 0 ∈ p ∨ (pieces 47 p []).any (fun s => decide (s = []) || decide (s = [46]) || decide (s = [46, 46])) = true then 5 else 0
def PathOk : Prop := ∀ (p : List UInt8) (m : Mem), p.length ≤ 1000000 → Abs.Spec Tryz.prog 267 [.string (str p)] m fun u M => u = .int .i64 (pathV p) ∧ M = m
end Go.Proofs.YtfdijpacbhomjaaGreatDoor
