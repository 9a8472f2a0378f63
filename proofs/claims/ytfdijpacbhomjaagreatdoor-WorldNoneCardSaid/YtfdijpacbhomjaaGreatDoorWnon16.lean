/-
  The walks of journal: blank, Check, Put.
  The walk of journal.Take.
  A depot in memory; the walk of find.
  The walks of find, Head, Got.
  The walks of Got, Epoch, Staged, note, keep.
  The walk of keep; a depot turns.
  The walk of keep.
  The walk of Abort.
  The walk of Stage.
  The walks of slices.Index of nil, among a depot's pointers.
  Appends in any memory.
  Lists of one's own, of whatever elements, in memory.
  The walk of places.
  The walk of fits.
  The walk of blocks.
  merkle's leaves, nodes and roots; an archive's root.
  Keys, leaves, tags, disks, epochs: callers for the machine as a function, put together.
  Chapter 32's example: its salt, its keys, its block.
  Chapter 32's example: world.Salt, carried out by the kernel.
  Chapter 32's example: chacha.XOR, carried out by the kernel.
  Chapter 19's example: flate.Simple, carried out by the kernel.
  Chapter 19's example: flate.Rich, carried out by the kernel.
  Chapter 32's example: the callers.
  Chapter 32's example comes out true.
-/
import Derived.Test.YtfdijpacbhomjaaGreatDoorWnon15
import Derived.Test.YtfdijpacbhomjaaGreatDoorWnon12
import Derived.Test.YtfdijpacbhomjaaGreatDoorWnon10
import Derived.Test.YtfdijpacbhomjaaGreatDoorWnon03
import Derived.Test.YtfdijpacbhomjaaGreatDoorWnon09
import Derived.Test.YtfdijpacbhomjaaGreatDoorWnon14
set_option linter.all false
namespace Go.Proofs.YtfdijpacbhomjaaGreatDoor
open Go.RowKit Abs
theorem msum_at (x : Int) (v : Value) (xs : List ByteArray) (m : Mem) (hd : Rd m 1 v xs.length (xs.map .string)) (hlen : xs.length ≤ maxLen) (hsz : (joined xs).length ≤ 140737488355200) :
    Abs.Spec Tryz.prog 236 [.int .i64 x, v] m fun u M => u = .string (str (Sha.msum x (joined xs))) ∧ M = m :=
  Spec.of_below rfl fun ι w ys hy hr => by
    obtain ⟨a', b', rfl, ha, hb⟩ := vrels_two hy
    cases ha
    exact msum_any x b' xs w (Rd.strs hr hd hb) hlen hsz
theorem msum32 (l : List UInt8) : Sha.msum 32 l = Sha.sum l := by
  unfold Sha.msum
  rw [List.take_of_length_le]
  rw [Sha.sum_length]
  decide
theorem new_str2 (a b : ByteArray) : nBuildSlice Tryz.prog 36 2 [(0, .string a), (1, .string b)] = some (.cells false 1 [.string a, .string b]) := by kernel_rfl
theorem new_str3 (a b c : ByteArray) : nBuildSlice Tryz.prog 36 3 [(0, .string a), (1, .string b), (2, .string c)] = some (.cells false 1 [.string a, .string b, .string c]) := by kernel_rfl
theorem rd_new (m : Mem) (n : Nat) (cs : List Value) (k : Nat) (hk : cs.length = k * n) (hm : k ≤ maxLen) : Rd (m.push (.cells false n cs)) n (.slice (some ⟨m.size, 0, none⟩) k k) k cs :=
  ⟨_, _, rfl, hk, Nat.le_refl _, hm, (fun h => by cases h), fun p hp => ⟨_, (Option.some.inj hp).symm, fun _ => ⟨false, Mem.get_push_new _ _⟩⟩⟩
set_option maxRecDepth 100000 in
set_option maxHeartbeats 2000000 in
theorem leaf_at (s : List UInt8) (hs : s.length ≤ 1000000) (m : Mem) : Abs.Spec Tryz.prog 168 [.int .i64 32, .string (str s)] m fun u M => u = .string (str (leafV s)) ∧ M = m := by
  refine Abs.Spec.of_empty (by intro x hx; simp at hx; rcases hx with rfl | rfl <;> rfl) rfl ?_ m
  refine WM Tryz.func168 Tryz.results168 Tryz.ntmps168 fun _ => ?_
  have hj : joined [str [0], str s] = 0 :: s := by simp [joined, str]
  refine CW_seq (R0 ?_)
  refine CW_seq (R1 @new_str2 ?_)
  refine K0 (msum_at 32 _ [str [0], str s] _ (rd_new _ 1 _ 2 rfl (by decide)) (show 2 ≤ maxLen by decide) (by rw [hj]; simp only [List.length_cons]; omega)) ?_
  refine T0 ?_
  exact ⟨_, Thin.refl _, by rw [hj, msum32]; rfl⟩
set_option maxRecDepth 100000 in
set_option maxHeartbeats 2000000 in
theorem node_at (a b : List UInt8) (ha : a.length ≤ 1000000) (hb : b.length ≤ 1000000) (m : Mem) : Abs.Spec Tryz.prog 238 [.int .i64 32, .string (str a), .string (str b)] m fun u M => u = .string (str (Sha.sum (1 :: (a ++ b)))) ∧ M = m := by
  refine Abs.Spec.of_empty (by intro x hx; simp at hx; rcases hx with rfl | rfl | rfl <;> rfl) rfl ?_ m
  refine WM Tryz.func238 Tryz.results238 Tryz.ntmps238 fun _ => ?_
  have hj : joined [str [1], str a, str b] = 1 :: (a ++ b) := by simp [joined, str]
  refine CW_seq (R0 ?_)
  refine CW_seq (R1 @new_str3 ?_)
  refine K0 (msum_at 32 _ [str [1], str a, str b] _ (rd_new _ 1 _ 3 rfl (by decide)) (show 3 ≤ maxLen by decide) (by rw [hj]; simp only [List.length_cons, List.length_append]; omega)) ?_
  refine T0 ?_
  exact ⟨_, Thin.refl _, by rw [hj, msum32]⟩
end Go.Proofs.YtfdijpacbhomjaaGreatDoor
namespace Go.Proofs.YtfdijpacbhomjaaGreatDoor
open Go.RowKit Abs
noncomputable def keysF (a b : List UInt8) : Value := .agg #[.string (str (Sha.tagF (Sha.tagF b a) (Sha.forBytes ++ [1]))), .string (str (Sha.tagF (Sha.tagF b a) (Sha.forTags ++ [1]))), .string (str (Sha.tagF (Sha.tagF [] a) (Sha.forHeads ++ [1])))]
theorem keysF_eq (a b : List UInt8) : keysF a b = keysV a b := by
  unfold keysF keysV Sha.encKey Sha.macKey Sha.headKey
  simp only [Sha.tagF_eq, Ex.exp32]
noncomputable def keysG (ys : List Value) : Option Value := match ys with
  | [.string a, .string b] => bif Nat.ble a.size 1000 then bif Nat.ble b.size 1000 then some (keysF a.data.toList b.data.toList) else none else none
  | _ => none
theorem keysG_known (ys : List Value) (v : Value) (h : keysG ys = some v) : Known Tryz.prog 89 ys v := by
  unfold keysG at h
  split at h <;> first | (cases h; done) | skip
  rename_i k s
  cases h1 : Nat.ble k.size 1000 <;> rw [h1] at h <;> first | (cases h; done) | skip
  cases h2 : Nat.ble s.size 1000 <;> rw [h2] at h <;> first | (cases h; done) | skip
  cases h
  have h1 := Nat.le_of_ble_eq_true h1
  have h2 := Nat.le_of_ble_eq_true h2
  rw [keysF_eq]
  exact Ex.keys_at k.data.toList s.data.toList (by simpa using h1) (by simpa using h2)
noncomputable def leafG (ys : List Value) : Option Value := match ys with
  | [.int .i64 (.ofNat n), .string a] => bif Nat.beq n 32 then bif Nat.ble a.size 1000000 then some (.string (str (Sha.sumF (0 :: a.data.toList)))) else none else none
  | _ => none
theorem leafG_known (ys : List Value) (v : Value) (h : leafG ys = some v) : Known Tryz.prog 168 ys v := by
  unfold leafG at h
  split at h <;> first | (cases h; done) | skip
  rename_i n a
  cases h1 : Nat.beq n 32 <;> rw [h1] at h <;> first | (cases h; done) | skip
  cases h2 : Nat.ble a.size 1000000 <;> rw [h2] at h <;> first | (cases h; done) | skip
  cases h
  have h1 := Nat.eq_of_beq_eq_true h1
  have h2 := Nat.le_of_ble_eq_true h2
  subst h1
  rw [Sha.sumF_eq]
  exact fun m => leaf_at a.data.toList (by simpa using h2) m
noncomputable def nodeG (ys : List Value) : Option Value := match ys with
  | [.int .i64 (.ofNat n), .string a, .string b] => bif Nat.beq n 32 then bif Nat.ble a.size 1000000 then bif Nat.ble b.size 1000000 then some (.string (str (Sha.sumF (1 :: (a.data.toList ++ b.data.toList))))) else none else none else none
  | _ => none
theorem nodeG_known (ys : List Value) (v : Value) (h : nodeG ys = some v) : Known Tryz.prog 238 ys v := by
  unfold nodeG at h
  split at h <;> first | (cases h; done) | skip
  rename_i n a b
  cases h1 : Nat.beq n 32 <;> rw [h1] at h <;> first | (cases h; done) | skip
  cases h2 : Nat.ble a.size 1000000 <;> rw [h2] at h <;> first | (cases h; done) | skip
  cases h3 : Nat.ble b.size 1000000 <;> rw [h3] at h <;> first | (cases h; done) | skip
  cases h
  have h1 := Nat.eq_of_beq_eq_true h1
  have h2 := Nat.le_of_ble_eq_true h2
  have h3 := Nat.le_of_ble_eq_true h3
  subst h1
  rw [Sha.sumF_eq]
  exact fun m => node_at a.data.toList b.data.toList (by simpa using h2) (by simpa using h3) m
def keysTab : List (FuncId × List Value × Value) := [(89, [.string (str [115]), .string (str Ex.salt)], Ex.keys1), (89, [.string (str [115]), .string (str [])], Ex.keys2)]
theorem keysTab_known : ∀ e ∈ keysTab, Known Tryz.prog e.1 e.2.1 e.2.2 := by
  intro e he
  simp only [keysTab, List.mem_cons, List.not_mem_nil, or_false] at he
  rcases he with rfl | rfl
  · exact Ex.keys1_known
  · exact Ex.keys2_known
noncomputable def sumsT (T : Caller) : Caller := alsoT (tabT keysTab) (flatT 89 keysG (flatT 168 leafG (flatT 238 nodeG (tagT T))))
theorem sumsT_good {T : Caller} (hT : Abs.Good Tryz.prog T) : Abs.Good Tryz.prog (sumsT T) := alsoT_good (tabT_good keysTab keysTab_known) (flatT_good (flatT_good (flatT_good (tagT_good hT) nodeG_known) leafG_known) keysG_known)
noncomputable def depT (T : Caller) : Caller := nextT (fCall Tryz.prog (syncT (libT T)) 1000 30) (syncT (libT (sumsT T)))
theorem depT_good {T : Caller} (hT : Abs.Good Tryz.prog T) : Abs.Good Tryz.prog (depT T) := nextT_good (fCall_good hmix (syncT_good (libT_good hT)) 1000 30) (syncT_good (libT_good (sumsT_good hT)))
end Go.Proofs.YtfdijpacbhomjaaGreatDoor
namespace Go.Proofs.YtfdijpacbhomjaaGreatDoor
open Go.RowKit Abs
def salt32 : List UInt8 := [240, 94, 130, 124, 61, 45, 104, 161, 23, 6, 253, 168, 33, 106, 6, 75]
def enc32 : List UInt8 := [182, 143, 138, 108, 245, 66, 165, 250, 26, 210, 151, 44, 45, 179, 136, 252, 170, 2, 182, 32, 11, 252, 92, 216, 118, 110, 231, 224, 134, 156, 40, 194]
def mac32 : List UInt8 := [94, 52, 57, 88, 51, 24, 255, 206, 182, 105, 5, 230, 172, 209, 68, 130, 213, 60, 230, 91, 73, 118, 224, 90, 232, 230, 92, 61, 148, 240, 4, 131]
def head32 : List UInt8 := [99, 92, 220, 172, 47, 209, 125, 152, 245, 28, 243, 212, 52, 67, 4, 67, 159, 212, 28, 67, 33, 199, 164, 24, 178, 211, 127, 217, 175, 83, 194, 69]
def ciph32 : List UInt8 := [38, 99, 12, 178, 206, 87, 188, 9, 106, 42, 173, 171, 147, 157, 17, 159, 52, 163, 123, 218, 160, 31, 17, 90, 3, 84, 64, 176, 143, 237, 57, 76, 205, 196, 3, 20, 74, 11, 107, 126, 94, 255, 119, 226, 142, 150, 235, 94, 124, 147, 5, 222, 80, 218, 234, 236, 104, 84, 6, 249, 43, 246, 226, 174, 168, 251, 120, 30, 183, 230, 154, 21, 132, 245, 137, 80, 45, 31, 186, 73, 97, 98, 172, 238, 212, 18, 23, 80, 9, 205, 112, 92, 98, 251, 135, 33, 62, 135, 73, 126, 81, 74, 164, 254, 76, 119, 134, 51, 76, 122, 108, 167, 159, 190, 201, 245, 24, 237, 102, 33, 23, 149, 5, 197, 66, 9, 230, 32, 9, 105, 247, 80, 64, 40, 207, 111, 120, 247, 129, 190, 95, 223, 35, 101, 171, 50, 41, 254, 75, 163, 27, 218, 221, 185, 216, 181, 75, 139, 103, 243, 181, 35, 152, 42, 147, 13, 244, 173, 96, 195, 189, 6, 224, 66, 242, 70, 107, 35, 140, 48, 93, 120, 50, 67, 178, 91, 101, 93, 239, 178, 32, 70]
def keys32 : Value := .agg #[.string (str enc32), .string (str mac32), .string (str head32)]
set_option maxRecDepth 100000 in
theorem keys32_eq : keysF [115] salt32 = keys32 := by kernel_rfl
theorem keys32_known : Known Tryz.prog 89 [.string (str [115]), .string (str salt32)] keys32 := by
  have := Ex.keys_at [115] salt32 (by decide) (by decide)
  rw [← keysF_eq, keys32_eq] at this
  exact this
end Go.Proofs.YtfdijpacbhomjaaGreatDoor
namespace Go.Proofs.YtfdijpacbhomjaaGreatDoor
open Go.RowKit Abs
set_option maxRecDepth 100000 in
theorem s32Salt : Known Tryz.prog 54 [.int .i64 1] (.string (str salt32)) :=
  known_of_run hmix noT_good (L := 100000) (n := 60) (fl1 rfl) rfl (by kernel_rfl)
end Go.Proofs.YtfdijpacbhomjaaGreatDoor
namespace Go.Proofs.YtfdijpacbhomjaaGreatDoor
open Go.RowKit Abs
set_option maxRecDepth 100000 in
theorem s32Xord : Known Tryz.prog 163 [.string (str enc32), .string (str nonce19), .int .i64 1, .string (str chunk19)] (.tuple #[.string (str ciph32), .int .i64 0]) :=
  known_of_run hmix noT_good (L := 100000) (n := 60) (fl1 rfl) rfl (by kernel_rfl)
end Go.Proofs.YtfdijpacbhomjaaGreatDoor
namespace Go.Proofs.YtfdijpacbhomjaaGreatDoor
open Go.RowKit Abs
set_option maxRecDepth 100000 in
theorem s19Simple : Known Tryz.prog 231 [.string (str in19)] (.string (str out19)) :=
  known_of_run hmix solT_good (L := 100000) (n := 60) (fl1 rfl) rfl (by kernel_rfl)
end Go.Proofs.YtfdijpacbhomjaaGreatDoor
namespace Go.Proofs.YtfdijpacbhomjaaGreatDoor
open Go.RowKit Abs
set_option maxRecDepth 100000 in
theorem s19Rich : Known Tryz.prog 232 [.string (str in19)] (.string (str rich19)) :=
  known_of_run hmix solT_good (L := 100000) (n := 60) (fl1 rfl) rfl (by kernel_rfl)
end Go.Proofs.YtfdijpacbhomjaaGreatDoor
namespace Go.Proofs.YtfdijpacbhomjaaGreatDoor
open Go.RowKit Abs
def tab32 : List (FuncId × List Value × Value) := [
  (231, [.string (str in19)], .string (str out19)),
  (232, [.string (str in19)], .string (str rich19)),
  (54, [.int .i64 (.ofNat 1)], .string (str salt32)),
  (163, [.string (str enc32), .string (str nonce19), .int .i64 (.ofNat 1), .string (str chunk19)], .tuple #[.string (str ciph32), .int .i64 (.ofNat 0)]),
  (89, [.string (str [115]), .string (str salt32)], keys32)]
theorem tab32_known : ∀ e ∈ tab32, Known Tryz.prog e.1 e.2.1 e.2.2 := by
  intro e he
  simp only [tab32, List.mem_cons, List.not_mem_nil, or_false] at he
  rcases he with rfl | rfl | rfl | rfl | rfl
  · exact s19Simple
  · exact s19Rich
  · exact s32Salt
  · exact s32Xord
  · exact keys32_known
noncomputable def T32 : Caller := alsoT (tabT tab32) (depT solT)
theorem T32_good : Abs.Good Tryz.prog T32 := alsoT_good (tabT_good tab32 tab32_known) (depT_good solT_good)
end Go.Proofs.YtfdijpacbhomjaaGreatDoor
namespace Go.Proofs.YtfdijpacbhomjaaGreatDoor
open Go.RowKit Abs
set_option maxRecDepth 100000 in
theorem awake32_spec : Known Tryz.prog 15 [] (.bool true) := known_of_run (xs := []) (v := .bool true) hmix T32_good (L := 100000) (n := 60) (fun x hx => by cases hx) rfl (by kernel_rfl)
end Go.Proofs.YtfdijpacbhomjaaGreatDoor
--LONG
/-
  The law of chapter 32: a world that is none.
-/
namespace Go.Proofs.YtfdijpacbhomjaaGreatDoor
open Go.RowKit Abs
set_option maxRecDepth 100000 in
set_option maxHeartbeats 16000000 in
theorem world_none (fr tn : Int) (c0 c1 c2 c3 c4 c5 c6 : Value) (h1 : oneAll [c0, c1, c2, c3, c4, c5, c6] = true) (M : Mem) :
    Abs.Spec Tryz.prog 3 [.int .i64 fr, .int .i64 tn, .agg #[c0, c1, c2, c3, c4, c5, c6]] M fun u _ => u = .bool true := by
  have bxS : nBox Tryz.prog 26 (.agg #[c0, c1, c2, c3, c4, c5, c6]) = some (.cells false (aStride Tryz.prog 26) [c0, c1, c2, c3, c4, c5, c6]) := nBox_row 26 h1
  generalize aStride Tryz.prog 26 = s1 at bxS
  have rS : rowIn 7 0 (some (.cells false s1 [c0, c1, c2, c3, c4, c5, c6])) = some (.agg #[c0, c1, c2, c3, c4, c5, c6]) := rfl
  have bC : aBuild Tryz.prog 34 [(1, .int .i64 fr), (2, .int .i64 tn)] = some (.agg #[.string ⟨#[]⟩, .int .i64 fr, .int .i64 tn, .int .i64 0, .int .i64 0]) := by kernel_rfl
  have alT : nAlloc Tryz.prog 40 = some (.cells false (aStride Tryz.prog 40) [.slice none 0 0, .slice none 0 0, .int .i64 0, .int .i64 0, .slice none 0 0, .int .i64 0]) := al_Trc
  generalize aStride Tryz.prog 40 = s2 at alT
  have pT : ∀ (M0 : Mem) (b : Nat), putIn 6 M0 b 0 [.slice none 0 0, .slice none 0 0, .int .i64 0, .int .i64 0, .slice none 0 0, .int .i64 0] (some (.cells false s2 [.slice none 0 0, .slice none 0 0, .int .i64 0, .int .i64 0, .slice none 0 0, .int .i64 0])) = some (M0.set b (some (.cells false s2 [.slice none 0 0, .slice none 0 0, .int .i64 0, .int .i64 0, .slice none 0 0, .int .i64 0]))) := fun _ _ => rfl
  have cT : noTrace.cells.toList = [.slice none 0 0, .slice none 0 0, .int .i64 0, .int .i64 0, .slice none 0 0, .int .i64 0] := rfl
  have k0 : cellIn 0 (some (.cells false s2 [.slice none 0 0, .slice none 0 0, .int .i64 0, .int .i64 0, .slice none 0 0, .int .i64 0])) = some (.slice none 0 0) := rfl
  obtain ⟨b5, hb5⟩ : ∃ b, b = M.size := ⟨_, rfl⟩
  obtain ⟨M1, hM1⟩ : ∃ M1, M1 = M.push (.cells false s1 [c0, c1, c2, c3, c4, c5, c6]) := ⟨_, rfl⟩
  have g1 : M1.get b5 = some (.cells false s1 [c0, c1, c2, c3, c4, c5, c6]) := by rw [hM1, hb5, Mem.get_push_new]
  refine Abs.Spec.walkM Tryz.func3 (by rfl) _ Tryz.results3 _ Tryz.ntmps3 (by simp) ?_
  intro _ _ _
  refine CW_seq (CW_region ?_)
  simp only [zZ, reduceIte, Nat.reduceLT, Int.reduceToNat, Int.reduceLE, Int.reduceEq, Int.reduceLT, Nat.reduceEqDiff, Nat.reduceAdd, zDk, pd_eql, pd_neq, pd_eql0, pd_neq0, zPt, bxS]
  rw [← hM1, ← hb5]
  refine CW_seq (CW_region ?_)
  simp only [zZ, reduceIte, Nat.reduceLT, Int.reduceToNat, Int.reduceLE, Int.reduceEq, Int.reduceLT, Nat.reduceEqDiff, Nat.reduceAdd, zDk, pd_eql, pd_neq, pd_eql0, pd_neq0, zPt, bC]
  refine ⟨by kernel_rfl, _, wnew_spec M1 fr tn, ?_⟩
  rintro _ M2 ⟨⟨v, rfl, hv⟩, mo2⟩
  simp only [zZ, reduceIte, Nat.reduceLT, Int.reduceToNat, Int.reduceLE, Int.reduceEq, Int.reduceLT, Nat.reduceEqDiff, Nat.reduceAdd, zDk, pd_eql, pd_neq, pd_eql0, pd_neq0, zPt]
  obtain ⟨B, hB⟩ : ∃ B, B = (okSize fr && okSize tn) := ⟨_, rfl⟩
  rw [← hB] at hv ⊢
  have b21 : ((some true : Option Bool) == some true) = true := rfl
  have b20 : ((some false : Option Bool) == some true) = false := rfl
  have b01 : ((some true : Option Bool) == some false) = false := rfl
  have b00 : ((some false : Option Bool) == some false) = true := rfl
  refine MW_mid (fun f M' => f = [(5, .pointer (some ⟨b5, 0, none⟩)), (7, v), (8, .int .i64 (if B = true then 0 else 1)), (9, .bool B)] ∧ M' = M2) ?_ ?_
  · unfold okSize at hB
    cases q1 : decide (fr ≥ 13) with
    | false =>
      have q1' : decide (13 ≤ fr) = false := q1
      rw [q1'] at hB
      refine CW_region ?_
      simp only [zZ, reduceIte, Nat.reduceLT, Int.reduceToNat, Int.reduceLE, Int.reduceEq, Int.reduceLT, Nat.reduceEqDiff, Nat.reduceAdd, zDk, pd_eql, pd_neq, pd_eql0, pd_neq0, zPt, q1, b20]
      refine ⟨[5, 7, 8, 9], ?_⟩
      simp only [zZ, reduceIte, Nat.reduceLT, Int.reduceToNat, Int.reduceLE, Int.reduceEq, Int.reduceLT, Nat.reduceEqDiff, Nat.reduceAdd, keepF]
      exact ⟨_, Thin.refl _, by rw [hB]; rfl, rfl⟩
    | true =>
    have q1' : decide (13 ≤ fr) = true := q1
    rw [q1'] at hB
    cases q2 : decide (fr ≤ 1024) with
    | false =>
      rw [q2] at hB
      refine CW_region ?_
      simp only [zZ, reduceIte, Nat.reduceLT, Int.reduceToNat, Int.reduceLE, Int.reduceEq, Int.reduceLT, Nat.reduceEqDiff, Nat.reduceAdd, zDk, pd_eql, pd_neq, pd_eql0, pd_neq0, zPt, q1, q2, b20, b21]
      refine ⟨[5, 7, 8, 9], ?_⟩
      simp only [zZ, reduceIte, Nat.reduceLT, Int.reduceToNat, Int.reduceLE, Int.reduceEq, Int.reduceLT, Nat.reduceEqDiff, Nat.reduceAdd, keepF]
      exact ⟨_, Thin.refl _, by rw [hB]; rfl, rfl⟩
    | true =>
    rw [q2] at hB
    cases q3 : decide (tn ≥ 13) with
    | false =>
      have q3' : decide (13 ≤ tn) = false := q3
      rw [q3'] at hB
      refine CW_region ?_
      simp only [zZ, reduceIte, Nat.reduceLT, Int.reduceToNat, Int.reduceLE, Int.reduceEq, Int.reduceLT, Nat.reduceEqDiff, Nat.reduceAdd, zDk, pd_eql, pd_neq, pd_eql0, pd_neq0, zPt, q1, q2, q3, b20, b21]
      refine ⟨[5, 7, 8, 9], ?_⟩
      simp only [zZ, reduceIte, Nat.reduceLT, Int.reduceToNat, Int.reduceLE, Int.reduceEq, Int.reduceLT, Nat.reduceEqDiff, Nat.reduceAdd, keepF]
      exact ⟨_, Thin.refl _, by rw [hB]; rfl, rfl⟩
    | true =>
    have q3' : decide (13 ≤ tn) = true := q3
    rw [q3'] at hB
    cases q4 : decide (tn ≤ 1024) with
    | false =>
      rw [q4] at hB
      refine CW_region ?_
      simp only [zZ, reduceIte, Nat.reduceLT, Int.reduceToNat, Int.reduceLE, Int.reduceEq, Int.reduceLT, Nat.reduceEqDiff, Nat.reduceAdd, zDk, pd_eql, pd_neq, pd_eql0, pd_neq0, zPt, q1, q2, q3, q4, b20, b21]
      refine ⟨[5, 7, 8, 9], ?_⟩
      simp only [zZ, reduceIte, Nat.reduceLT, Int.reduceToNat, Int.reduceLE, Int.reduceEq, Int.reduceLT, Nat.reduceEqDiff, Nat.reduceAdd, keepF]
      exact ⟨_, Thin.refl _, by rw [hB]; rfl, rfl⟩
    | true =>
      rw [q4] at hB
      refine CW_region ?_
      simp only [zZ, reduceIte, Nat.reduceLT, Int.reduceToNat, Int.reduceLE, Int.reduceEq, Int.reduceLT, Nat.reduceEqDiff, Nat.reduceAdd, zDk, pd_eql, pd_neq, pd_eql0, pd_neq0, zPt, q1, q2, q3, q4, b20, b21]
      refine ⟨[5, 7, 8, 9], ?_⟩
      simp only [zZ, reduceIte, Nat.reduceLT, Int.reduceToNat, Int.reduceLE, Int.reduceEq, Int.reduceLT, Nat.reduceEqDiff, Nat.reduceAdd, keepF]
      exact ⟨_, Thin.refl _, by rw [hB]; rfl, rfl⟩
  rintro f M3 ⟨rfl, e3⟩; subst e3
  clear hB
  have nt : aBin Tryz.prog .neq 4 false (.bool true) (.bool true) = some (.bool false) := by kernel_rfl
  have nf : aBin Tryz.prog .neq 4 false (.bool false) (.bool false) = some (.bool false) := by kernel_rfl
  have g13 := mo2.get _ _ g1
  have wn : ∀ d : Nat, aBin Tryz.prog .neq 27 true (dp d) (.pointer none) = some (.bool true) := fun d => by kernel_rfl
  have wn0 : aBin Tryz.prog .neq 27 true (.pointer none) (.pointer none) = some (.bool false) := by kernel_rfl
  refine MW_mid (fun f M' => f = [(5, .pointer (some ⟨b5, 0, none⟩))] ∧ M' = M3) ?_ ?_
  · cases B with
    | true =>
      rw [if_pos rfl] at hv ⊢
      obtain ⟨d, rfl⟩ := hv
      have e0 : ((0 : Int) == 0) = true := rfl
      refine CW_seq (CW_region ?_)
      simp only [zZ, reduceIte, Nat.reduceLT, Int.reduceToNat, Int.reduceLE, Int.reduceEq, Int.reduceLT, Nat.reduceEqDiff, Nat.reduceAdd, zDk, pd_eql, pd_neq, pd_eql0, pd_neq0, zPt, e0, nt, nf, wn, b00, b01, b20, b21, Bool.not_true, Bool.not_false]
      refine CW_cond false (by rfl) (fun h => by cases h) (fun _ => CW_skip ?_)
      refine ⟨[5], ?_⟩
      simp only [zZ, reduceIte, Nat.reduceLT, Int.reduceToNat, Int.reduceLE, Int.reduceEq, Int.reduceLT, Nat.reduceEqDiff, Nat.reduceAdd, keepF]
      exact ⟨_, Thin.refl _, rfl⟩
    | false =>
      rw [if_neg (by decide)] at hv ⊢
      subst hv
      have e0 : ((1 : Int) == 0) = false := rfl
      have e1 : ((1 : Int) != 1) = false := rfl
      refine CW_seq (CW_region ?_)
      simp only [zZ, reduceIte, Nat.reduceLT, Int.reduceToNat, Int.reduceLE, Int.reduceEq, Int.reduceLT, Nat.reduceEqDiff, Nat.reduceAdd, zDk, pd_eql, pd_neq, pd_eql0, pd_neq0, zPt, e0, e1, nt, nf, wn0, b00, b01, b20, b21, Bool.not_true, Bool.not_false]
      refine CW_cond false (by rfl) (fun h => by cases h) (fun _ => CW_skip ?_)
      refine ⟨[5], ?_⟩
      simp only [zZ, reduceIte, Nat.reduceLT, Int.reduceToNat, Int.reduceLE, Int.reduceEq, Int.reduceLT, Nat.reduceEqDiff, Nat.reduceAdd, keepF]
      exact ⟨_, Thin.refl _, rfl⟩
  rintro f M4 ⟨rfl, e4⟩; subst e4
  refine CW_seq (CW_region ?_)
  simp only [zZ, reduceIte, Nat.reduceLT, Int.reduceToNat, Int.reduceLE, Int.reduceEq, Int.reduceLT, Nat.reduceEqDiff, Nat.reduceAdd, zDk, pd_eql, pd_neq, pd_eql0, pd_neq0, zPt]
  refine CW_seq (CW_region ?_)
  simp only [zZ, reduceIte, Nat.reduceLT, Int.reduceToNat, Int.reduceLE, Int.reduceEq, Int.reduceLT, Nat.reduceEqDiff, Nat.reduceAdd, zDk, pd_eql, pd_neq, pd_eql0, pd_neq0, zPt]
  refine ⟨by kernel_rfl, _, wtrace_none _, ?_⟩
  rintro _ M5 ⟨rfl, e5⟩; replace e5 := e5.symm; subst e5
  simp only [zZ, reduceIte, Nat.reduceLT, Int.reduceToNat, Int.reduceLE, Int.reduceEq, Int.reduceLT, Nat.reduceEqDiff, Nat.reduceAdd, zDk, pd_eql, pd_neq, pd_eql0, pd_neq0, zPt, alT, Mem.get_push_new, cT, pT]
  obtain ⟨b11, hb11⟩ : ∃ b, b = M4.size := ⟨_, rfl⟩
  obtain ⟨M6, hM6⟩ : ∃ M6, M6 = ((M4.push (.cells false s2 [.slice none 0 0, .slice none 0 0, .int .i64 0, .int .i64 0, .slice none 0 0, .int .i64 0])).set M4.size (some (.cells false s2 [.slice none 0 0, .slice none 0 0, .int .i64 0, .int .i64 0, .slice none 0 0, .int .i64 0]))) := ⟨_, rfl⟩
  have g11 : M6.get b11 = some (.cells false s2 [.slice none 0 0, .slice none 0 0, .int .i64 0, .int .i64 0, .slice none 0 0, .int .i64 0]) := by rw [hM6, hb11]; exact Mem.get_set_same (Mem.get_push_new _ _) _
  have g16 : M6.get b5 = some (.cells false s1 [c0, c1, c2, c3, c4, c5, c6]) := by have := Mem.get_lt g13; rw [hM6, Mem.get_set_ne (by omega), Mem.get_push_old this]; exact g13
  rw [← hM6, ← hb11]
  have i8 : ((8 : Int) == 8) = true := rfl
  have i0 : ((0 : Int) == 0) = true := rfl
  have l0 : (((0 : Nat) : Int) == 0) = true := rfl
  have pe : aBin Tryz.prog .eql 45 true (.pointer none) (.pointer none) = some (.bool true) := by kernel_rfl
  refine CW_seq (CW_region ?_)
  simp only [zZ, reduceIte, Nat.reduceLT, Int.reduceToNat, Int.reduceLE, Int.reduceEq, Int.reduceLT, Nat.reduceEqDiff, Nat.reduceAdd, zDk, pd_eql, pd_neq, pd_eql0, pd_neq0, zPt, g16, rS]
  refine ⟨by kernel_rfl, _, wdo_none M6 #[c0, c1, c2, c3, c4, c5, c6] h1, ?_⟩
  rintro _ M7 ⟨rfl, mo7⟩
  have g117 := mo7.get _ _ g11
  simp only [zZ, reduceIte, Nat.reduceLT, Int.reduceToNat, Int.reduceLE, Int.reduceEq, Int.reduceLT, Nat.reduceEqDiff, Nat.reduceAdd, zDk, pd_eql, pd_neq, pd_eql0, pd_neq0, zPt, i8, b21]
  refine ⟨by kernel_rfl, _, wnow_none _, ?_⟩
  rintro _ M9 ⟨rfl, e9⟩; replace e9 := e9.symm; subst e9
  simp only [zZ, reduceIte, Nat.reduceLT, Int.reduceToNat, Int.reduceLE, Int.reduceEq, Int.reduceLT, Nat.reduceEqDiff, Nat.reduceAdd, zDk, pd_eql, pd_neq, pd_eql0, pd_neq0, zPt, i0, b21]
  refine ⟨by kernel_rfl, _, wup_none0 _, ?_⟩
  rintro _ M9 ⟨rfl, e9⟩; replace e9 := e9.symm; subst e9
  simp only [zZ, reduceIte, Nat.reduceLT, Int.reduceToNat, Int.reduceLE, Int.reduceEq, Int.reduceLT, Nat.reduceEqDiff, Nat.reduceAdd, zDk, pd_eql, pd_neq, pd_eql0, pd_neq0, zPt, i0, b21, Bool.not_false]
  refine ⟨by kernel_rfl, _, wup_none1 _, ?_⟩
  rintro _ M9 ⟨rfl, e9⟩; replace e9 := e9.symm; subst e9
  simp only [zZ, reduceIte, Nat.reduceLT, Int.reduceToNat, Int.reduceLE, Int.reduceEq, Int.reduceLT, Nat.reduceEqDiff, Nat.reduceAdd, zDk, pd_eql, pd_neq, pd_eql0, pd_neq0, zPt, i0, b21, Bool.not_false]
  refine ⟨by kernel_rfl, _, wdepot_none _, ?_⟩
  rintro _ M9 ⟨rfl, e9⟩; replace e9 := e9.symm; subst e9
  simp only [zZ, reduceIte, Nat.reduceLT, Int.reduceToNat, Int.reduceLE, Int.reduceEq, Int.reduceLT, Nat.reduceEqDiff, Nat.reduceAdd, zDk, pd_eql, pd_neq, pd_eql0, pd_neq0, zPt, i0, b21, pe]
  refine ⟨by kernel_rfl, _, wkept_none _, ?_⟩
  rintro _ M9 ⟨rfl, e9⟩; replace e9 := e9.symm; subst e9
  simp only [zZ, reduceIte, Nat.reduceLT, Int.reduceToNat, Int.reduceLE, Int.reduceEq, Int.reduceLT, Nat.reduceEqDiff, Nat.reduceAdd, zDk, pd_eql, pd_neq, pd_eql0, pd_neq0, zPt, i0, b21, l0]
  refine ⟨by kernel_rfl, _, wpacked_none _, ?_⟩
  rintro _ M9 ⟨rfl, e9⟩; replace e9 := e9.symm; subst e9
  simp only [zZ, reduceIte, Nat.reduceLT, Int.reduceToNat, Int.reduceLE, Int.reduceEq, Int.reduceLT, Nat.reduceEqDiff, Nat.reduceAdd, zDk, pd_eql, pd_neq, pd_eql0, pd_neq0, zPt, i0, b21, l0]
  refine ⟨by kernel_rfl, _, wdone_none _, ?_⟩
  rintro _ M9 ⟨rfl, e9⟩; replace e9 := e9.symm; subst e9
  simp only [zZ, reduceIte, Nat.reduceLT, Int.reduceToNat, Int.reduceLE, Int.reduceEq, Int.reduceLT, Nat.reduceEqDiff, Nat.reduceAdd, zDk, pd_eql, pd_neq, pd_eql0, pd_neq0, zPt, i0, b21, l0]
  refine ⟨by kernel_rfl, _, wway_none _, ?_⟩
  rintro _ M9 ⟨rfl, e9⟩; replace e9 := e9.symm; subst e9
  simp only [zZ, reduceIte, Nat.reduceLT, Int.reduceToNat, Int.reduceLE, Int.reduceEq, Int.reduceLT, Nat.reduceEqDiff, Nat.reduceAdd, zDk, pd_eql, pd_neq, pd_eql0, pd_neq0, zPt, i0, b21, g117, k0, l0]
  refine ⟨by kernel_rfl, _, awake32_spec _, ?_⟩
  rintro _ M9 ⟨rfl, e9⟩; replace e9 := e9.symm; subst e9
  simp only [zZ, reduceIte, Nat.reduceLT, Int.reduceToNat, Int.reduceLE, Int.reduceEq, Int.reduceLT, Nat.reduceEqDiff, Nat.reduceAdd, zDk, pd_eql, pd_neq, pd_eql0, pd_neq0, zPt]
  refine CW_ret ?_
  simp only [zZ, reduceIte, Nat.reduceLT, Int.reduceToNat, Int.reduceLE, Int.reduceEq, Int.reduceLT, Nat.reduceEqDiff, Nat.reduceAdd, zDk, pd_eql, pd_neq, pd_eql0, pd_neq0, zPt, mEnd, sAnswer, sAnswer.sRes]
  exact ⟨_, Thin.refl _⟩
end Go.Proofs.YtfdijpacbhomjaaGreatDoor
