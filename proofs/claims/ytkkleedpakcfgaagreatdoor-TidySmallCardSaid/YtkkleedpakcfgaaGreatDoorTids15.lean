/-
  A depot in memory; the walk of find.
  The walks of find, Head, Got.
  The walks of Got, Epoch, Staged, note, keep.
  The walk of keep; a depot turns.
  The walk of keep.
  The walk of Abort.
  The walk of Stage.
  The walks of slices.Index of nil, among a depot's pointers.
  Appends in any memory.
  Lists of one's own, of whatever elements, in memory.
  The walk of places.
  The walk of fits.
  The walk of blocks.
  merkle's leaves, nodes and roots; an archive's root.
  Keys, leaves, tags, disks, epochs: callers for the machine as a function, put together.
  Lists of one's own: where the new blocks stand.
  places, told exactly: what it answers, and the blocks that it makes.
  archive.Root, told exactly: the blocks that it makes.
  Appending to what '[]byte(s)' made: a block whose frozen stretch lies behind its end.
  The walks of the document's answer for layer 2: turned words.
  The walks of the document's answer for layer 2: a text with what stands behind it.
-/
import Derived.Test.YtkkleedpakcfgaaGreatDoorTids14
import Derived.Test.YtkkleedpakcfgaaGreatDoorTids11
import Derived.Test.YtkkleedpakcfgaaGreatDoorTids12
import Derived.Test.YtkkleedpakcfgaaGreatDoorTids10
import Derived.Test.YtkkleedpakcfgaaGreatDoorTids03
import Derived.Test.YtkkleedpakcfgaaGreatDoorTids09
import Derived.Test.YtkkleedpakcfgaaGreatDoorTids01
import Derived.Lib.FrozenHead2
import Derived.Laws.IdiomStrings
import Derived.Test.YtkkleedpakcfgaaGreatDoorTids02
import Derived.Deep.QuietTactic
import Derived.BigQuiet
set_option linter.all false
namespace Go.Proofs.YtkkleedpakcfgaaGreatDoor
open Go.RowKit Abs
theorem msum_at (x : Int) (v : Value) (xs : List ByteArray) (m : Mem) (hd : Rd m 1 v xs.length (xs.map .string)) (hlen : xs.length ≤ maxLen) (hsz : (joined xs).length ≤ 140737488355200) :
    Abs.Spec Tryz.prog 127 [.int .i64 x, v] m fun u M => u = .string (str (Sha.msum x (joined xs))) ∧ M = m :=
  Spec.of_below rfl fun ι w ys hy hr => by
    obtain ⟨a', b', rfl, ha, hb⟩ := vrels_two hy
    cases ha
    exact msum_any x b' xs w (Rd.strs hr hd hb) hlen hsz
theorem msum32 (l : List UInt8) : Sha.msum 32 l = Sha.sum l := by
  unfold Sha.msum
  rw [List.take_of_length_le]
  rw [Sha.sum_length]
  decide
theorem new_str2 (a b : ByteArray) : nBuildSlice Tryz.prog 31 2 [(0, .string a), (1, .string b)] = some (.cells false 1 [.string a, .string b]) := by kernel_rfl
theorem new_str3 (a b c : ByteArray) : nBuildSlice Tryz.prog 31 3 [(0, .string a), (1, .string b), (2, .string c)] = some (.cells false 1 [.string a, .string b, .string c]) := by kernel_rfl
theorem rd_new (m : Mem) (n : Nat) (cs : List Value) (k : Nat) (hk : cs.length = k * n) (hm : k ≤ maxLen) : Rd (m.push (.cells false n cs)) n (.slice (some ⟨m.size, 0, none⟩) k k) k cs :=
  ⟨_, _, rfl, hk, Nat.le_refl _, hm, (fun h => by cases h), fun p hp => ⟨_, (Option.some.inj hp).symm, fun _ => ⟨false, Mem.get_push_new _ _⟩⟩⟩
set_option maxRecDepth 100000 in
set_option maxHeartbeats 2000000 in
theorem leaf_at (s : List UInt8) (hs : s.length ≤ 1000000) (m : Mem) : Abs.Spec Tryz.prog 74 [.int .i64 32, .string (str s)] m fun u M => u = .string (str (leafV s)) ∧ M = m := by
  refine Abs.Spec.of_empty (by intro x hx; simp at hx; rcases hx with rfl | rfl <;> rfl) rfl ?_ m
  refine WM Tryz.func74 Tryz.results74 Tryz.ntmps74 fun _ => ?_
  have hj : joined [str [0], str s] = 0 :: s := by simp [joined, str]
  refine CW_seq (R0 ?_)
  refine CW_seq (R1 @new_str2 ?_)
  refine K0 (msum_at 32 _ [str [0], str s] _ (rd_new _ 1 _ 2 rfl (by decide)) (show 2 ≤ maxLen by decide) (by rw [hj]; simp only [List.length_cons]; omega)) ?_
  refine T0 ?_
  exact ⟨_, Thin.refl _, by rw [hj, msum32]; rfl⟩
set_option maxRecDepth 100000 in
set_option maxHeartbeats 2000000 in
theorem node_at (a b : List UInt8) (ha : a.length ≤ 1000000) (hb : b.length ≤ 1000000) (m : Mem) : Abs.Spec Tryz.prog 196 [.int .i64 32, .string (str a), .string (str b)] m fun u M => u = .string (str (Sha.sum (1 :: (a ++ b)))) ∧ M = m := by
  refine Abs.Spec.of_empty (by intro x hx; simp at hx; rcases hx with rfl | rfl | rfl <;> rfl) rfl ?_ m
  refine WM Tryz.func196 Tryz.results196 Tryz.ntmps196 fun _ => ?_
  have hj : joined [str [1], str a, str b] = 1 :: (a ++ b) := by simp [joined, str]
  refine CW_seq (R0 ?_)
  refine CW_seq (R1 @new_str3 ?_)
  refine K0 (msum_at 32 _ [str [1], str a, str b] _ (rd_new _ 1 _ 3 rfl (by decide)) (show 3 ≤ maxLen by decide) (by rw [hj]; simp only [List.length_cons, List.length_append]; omega)) ?_
  refine T0 ?_
  exact ⟨_, Thin.refl _, by rw [hj, msum32]⟩
end Go.Proofs.YtkkleedpakcfgaaGreatDoor
namespace Go.Proofs.YtkkleedpakcfgaaGreatDoor
open Go.RowKit Abs
noncomputable def keysF (a b : List UInt8) : Value := .agg #[.string (str (Sha.tagF (Sha.tagF b a) (Sha.forBytes ++ [1]))), .string (str (Sha.tagF (Sha.tagF b a) (Sha.forTags ++ [1]))), .string (str (Sha.tagF (Sha.tagF [] a) (Sha.forHeads ++ [1])))]
theorem keysF_eq (a b : List UInt8) : keysF a b = keysV a b := by
  unfold keysF keysV Sha.encKey Sha.macKey Sha.headKey
  simp only [Sha.tagF_eq, Ex.exp32]
noncomputable def keysG (ys : List Value) : Option Value := match ys with
  | [.string a, .string b] => bif Nat.ble a.size 1000 then bif Nat.ble b.size 1000 then some (keysF a.data.toList b.data.toList) else none else none
  | _ => none
theorem keysG_known (ys : List Value) (v : Value) (h : keysG ys = some v) : Known Tryz.prog 19 ys v := by
  unfold keysG at h
  split at h <;> first | (cases h; done) | skip
  rename_i k s
  cases h1 : Nat.ble k.size 1000 <;> rw [h1] at h <;> first | (cases h; done) | skip
  cases h2 : Nat.ble s.size 1000 <;> rw [h2] at h <;> first | (cases h; done) | skip
  cases h
  have h1 := Nat.le_of_ble_eq_true h1
  have h2 := Nat.le_of_ble_eq_true h2
  rw [keysF_eq]
  exact Ex.keys_at k.data.toList s.data.toList (by simpa using h1) (by simpa using h2)
noncomputable def leafG (ys : List Value) : Option Value := match ys with
  | [.int .i64 (.ofNat n), .string a] => bif Nat.beq n 32 then bif Nat.ble a.size 1000000 then some (.string (str (Sha.sumF (0 :: a.data.toList)))) else none else none
  | _ => none
theorem leafG_known (ys : List Value) (v : Value) (h : leafG ys = some v) : Known Tryz.prog 74 ys v := by
  unfold leafG at h
  split at h <;> first | (cases h; done) | skip
  rename_i n a
  cases h1 : Nat.beq n 32 <;> rw [h1] at h <;> first | (cases h; done) | skip
  cases h2 : Nat.ble a.size 1000000 <;> rw [h2] at h <;> first | (cases h; done) | skip
  cases h
  have h1 := Nat.eq_of_beq_eq_true h1
  have h2 := Nat.le_of_ble_eq_true h2
  subst h1
  rw [Sha.sumF_eq]
  exact fun m => leaf_at a.data.toList (by simpa using h2) m
noncomputable def nodeG (ys : List Value) : Option Value := match ys with
  | [.int .i64 (.ofNat n), .string a, .string b] => bif Nat.beq n 32 then bif Nat.ble a.size 1000000 then bif Nat.ble b.size 1000000 then some (.string (str (Sha.sumF (1 :: (a.data.toList ++ b.data.toList))))) else none else none else none
  | _ => none
theorem nodeG_known (ys : List Value) (v : Value) (h : nodeG ys = some v) : Known Tryz.prog 196 ys v := by
  unfold nodeG at h
  split at h <;> first | (cases h; done) | skip
  rename_i n a b
  cases h1 : Nat.beq n 32 <;> rw [h1] at h <;> first | (cases h; done) | skip
  cases h2 : Nat.ble a.size 1000000 <;> rw [h2] at h <;> first | (cases h; done) | skip
  cases h3 : Nat.ble b.size 1000000 <;> rw [h3] at h <;> first | (cases h; done) | skip
  cases h
  have h1 := Nat.eq_of_beq_eq_true h1
  have h2 := Nat.le_of_ble_eq_true h2
  have h3 := Nat.le_of_ble_eq_true h3
  subst h1
  rw [Sha.sumF_eq]
  exact fun m => node_at a.data.toList b.data.toList (by simpa using h2) (by simpa using h3) m
def keysTab : List (FuncId × List Value × Value) := [(19, [.string (str [115]), .string (str Ex.salt)], Ex.keys1), (19, [.string (str [115]), .string (str [])], Ex.keys2)]
theorem keysTab_known : ∀ e ∈ keysTab, Known Tryz.prog e.1 e.2.1 e.2.2 := by
  intro e he
  simp only [keysTab, List.mem_cons, List.not_mem_nil, or_false] at he
  rcases he with rfl | rfl
  · exact Ex.keys1_known
  · exact Ex.keys2_known
noncomputable def sumsT (T : Caller) : Caller := alsoT (tabT keysTab) (flatT 19 keysG (flatT 74 leafG (flatT 196 nodeG (tagT T))))
theorem sumsT_good {T : Caller} (hT : Abs.Good Tryz.prog T) : Abs.Good Tryz.prog (sumsT T) := alsoT_good (tabT_good keysTab keysTab_known) (flatT_good (flatT_good (flatT_good (tagT_good hT) nodeG_known) leafG_known) keysG_known)
noncomputable def depT (T : Caller) : Caller := nextT (fCall Tryz.prog (syncT (libT T)) 1000 30) (syncT (libT (sumsT T)))
theorem depT_good {T : Caller} (hT : Abs.Good Tryz.prog T) : Abs.Good Tryz.prog (depT T) := nextT_good (fCall_good hmix (syncT_good (libT_good hT)) 1000 30) (syncT_good (libT_good (sumsT_good hT)))
end Go.Proofs.YtkkleedpakcfgaaGreatDoor
namespace Go.Proofs.YtkkleedpakcfgaaGreatDoor
open Go.RowKit
theorem rrotr_key (x n m : Nat) (hx : x < 4294967296) (hn1 : 2 ≤ n) (hn : n ≤ 31) (hm : m = 32 - n) :
    bits .or .i64 ((x : Int) / 2 ^ n) (bits .and .i64 (wrap64 ((x : Int) * 2 ^ m)) 4294967295) = (Sha.rotr x n : Nat) := by
  have hp : x * 2 ^ m ≤ 4611686018427387904 := by
    have h1 : 2 ^ m ≤ 2 ^ 30 := Nat.pow_le_pow_right (by decide) (by omega)
    exact Nat.le_trans (Nat.mul_le_mul (Nat.le_of_lt hx) h1) (by decide)
  have e1 : wrap64 ((x : Int) * 2 ^ m) = ((x * 2 ^ m : Nat) : Int) := by
    have e : ((x : Int) * 2 ^ m) = ((x * 2 ^ m : Nat) : Int) := by push_cast; rfl
    rw [e]
    generalize x * 2 ^ m = P at *
    unfold wrap64
    omega
  have e2 : ((x : Int) / 2 ^ n) = ((x / 2 ^ n : Nat) : Int) := by push_cast; rfl
  have h2 : x / 2 ^ n ≤ x := Nat.div_le_self _ _
  have e3 := i64_and_nat (x * 2 ^ m) 4294967295 (by omega) (by omega)
  rw [show x * 2 ^ m &&& 4294967295 = x * 2 ^ m % 4294967296 from Nat.and_two_pow_sub_one_eq_mod _ 32] at e3
  have h3 : x * 2 ^ m % 4294967296 < 4294967296 := Nat.mod_lt _ (by decide)
  rw [e1, e2]
  refine (congrArg (bits .or .i64 ((x / 2 ^ n : Nat) : Int)) e3).trans ?_
  rw [i64_or_nat _ _ (by omega) (by omega)]
  unfold Sha.rotr
  rw [Nat.shiftRight_eq_div_pow, Nat.shiftLeft_eq, hm]
set_option maxRecDepth 100000 in
theorem rrotr_any (x n : Nat) (hx : x < 4294967296) (hn1 : 2 ≤ n) (hn : n ≤ 31) (w : World) :
    Calls Tryz.prog 271 #[.int .i64 x, .int .i64 n] w fun e w' => e = .returned (.int .i64 (Sha.rotr x n : Nat)) ∧ Below w.heap.size w w' := by
  have n0 : (0 : Int) ≤ n := by omega
  have n1 : (n : Int) < 64 := by omega
  obtain ⟨m, hm⟩ : ∃ m : Nat, m = 32 - n := ⟨_, rfl⟩
  have m0 : (32 : Int) - n = m := by omega
  have m1 : (0 : Int) ≤ m := by omega
  have m2 : (m : Int) < 64 := by omega
  have HK := Lib.hid (rrotr_key x n m hx hn1 hn hm)
  clear hm
  go_enter Tryz.func271, Tryz.ntmps271
  go_wp2_with fail
  go_quiet (fail)
  have HB := Lib.hid ((Same.drewN w nq).below w.heap.size)
  generalize w.drewN nq = w1 at *
  go_wp2_with fail
  go_ret
  exact ⟨by rw [← HK.out]; rfl, HB.out⟩
def natV (n : Nat) : Value := .int .i64 n
def w8i (v : Sha.W8) : List Nat := [v.a, v.b, v.c, v.d, v.e, v.f, v.g, v.h]
end Go.Proofs.YtkkleedpakcfgaaGreatDoor
namespace Go.Proofs.YtkkleedpakcfgaaGreatDoor
open Go.RowKit
def padS (m : List UInt8) (k : Nat) : List UInt8 := m ++ 0x80 :: List.replicate k 0
theorem padS_snoc (m : List UInt8) (k : Nat) : bytesV (padS m k) ++ [byteV 0] = bytesV (padS m (k + 1)) := by
  simp [bytesV, padS, List.replicate_succ']
theorem padS_length (m : List UInt8) (k : Nat) : (padS m k).length = m.length + 1 + k := by
  simp [padS]; omega
theorem pad_byte (n j : Nat) (hn : n ≤ 140737488355200) (hj : j < 8) : Value.int .u8 (bits BinOp.and IntKind.i64 (8 * (n : Int) / 2 ^ (8 * (7 - j))) 255 % 256) = byteV (UInt8.ofNat ((8 * n) >>> (56 - 8 * j))) := by
  have e : (8 * (n : Int) / 2 ^ (8 * (7 - j))) = ((8 * n / 2 ^ (8 * (7 - j)) : Nat) : Int) := by push_cast; rfl
  have hle : 8 * n / 2 ^ (8 * (7 - j)) ≤ 8 * n := Nat.div_le_self _ _
  have e2 := i64_and_nat (8 * n / 2 ^ (8 * (7 - j))) 255 (by omega) (by omega)
  rw [show 8 * n / 2 ^ (8 * (7 - j)) &&& 255 = 8 * n / 2 ^ (8 * (7 - j)) % 256 from Nat.and_two_pow_sub_one_eq_mod _ 8] at e2
  rw [e]
  unfold byteV
  congr 1
  refine (congrArg (· % 256) e2).trans ?_
  rw [UInt8.toNat_ofNat', Nat.shiftRight_eq_div_pow, show 56 - 8 * j = 8 * (7 - j) by omega]
  omega
theorem pad_snoc (q : List UInt8) (n j : Nat) (hn : n ≤ 140737488355200) (hj : j < 8) : bytesV (q ++ (Sha.be8 (8 * n)).take j) ++ [Value.int .u8 (bits BinOp.and IntKind.i64 (8 * (n : Int) / 2 ^ (8 * (7 - j))) 255 % 256)] = bytesV (q ++ (Sha.be8 (8 * n)).take (j + 1)) := by
  rw [pad_byte n j hn hj, List.take_add_one, be8_get _ _ hj]
  simp [bytesV]
end Go.Proofs.YtkkleedpakcfgaaGreatDoor
