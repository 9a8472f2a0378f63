/-
  Sectors of archives, and sets of blocks, in plain words.
  What a disk's sectors may hold: writes, syncs, crashes, in plain words.
  What is laid in a sector is read as it was, in plain words.
  An archive's bytes, in plain words: what is laid is read as it was, what is read is laid as it was.
  How many bits of a word are 1, plainly: the sums in fields come to the count.
  A walk over the empty memory serves any memory, where nothing has an address.
  The walks of bitset: one number; how many.
  Texts, one behind the other; digits.
  The walks of bitset: how many, all, how it is laid, one within another one.
  The walks of bitset: new ones, one within another one, read.
  The walks of bitset: one within another one; a set is read.
  A text, cut.
  The walk of enc.Take, at eight bytes.
  The walk of bitset.Take.
  The headers' and the catalogue's functions, flat.
  Drawn regions: one order will do in which operations that do not wait for each other may change places; or two, where a block is made beside a call.
  Walks: a region that draws its order runs as one order says; or, where a block is made beside a call, as two.
  The walks of catalog: Check, Meet, Put.
  The walk of catalog.Take.
  The walks of journal: blank, Check, Put.
  The walk of journal.Take.
  A depot in memory; the walk of find.
  The walks of find, Head, Got.
  The walks of Got, Epoch, Staged, note, keep.
  The walk of keep; a depot turns.
  The walk of keep.
  The walk of Abort.
  The walk of Stage.
  The walks of slices.Index of nil, among a depot's pointers.
  Appends in any memory.
  Lists of one's own, of whatever elements, in memory.
  The walk of places.
  The walk of fits.
  The walk of blocks.
  The document's Take of a header.
  Two archives, held against one another, over the abstract memory.
-/
import Derived.Test.YtkifimkcmfglmaaGreatDoorArcb12
import Derived.Test.YtkifimkcmfglmaaGreatDoorArcb03
import Derived.Test.YtkifimkcmfglmaaGreatDoorArcb04
import Derived.Test.YtkifimkcmfglmaaGreatDoorArcb01
import Derived.Test.YtkifimkcmfglmaaGreatDoorArcb10
import Derived.Test.YtkifimkcmfglmaaGreatDoorArcb02
import Derived.Test.YtkifimkcmfglmaaGreatDoorArcb11
import Derived.Lib.AtoiAllCases
import Derived.Lib.ItoaMem
import Derived.Test.YtkifimkcmfglmaaGreatDoorArcb09
import Derived.Test.YtkifimkcmfglmaaGreatDoorArcb05
set_option linter.all false
namespace Go.Proofs.YtkifimkcmfglmaaGreatDoor
open Go.RowKit Abs
instance hdrDec : DecidableEq Header := fun a b =>
  if h : a.id = b.id ∧ a.salt = b.salt ∧ a.n = b.n ∧ a.bytes = b.bytes ∧ a.raw = b.raw ∧ a.root = b.root ∧ a.tag = b.tag then .isTrue (by
    obtain ⟨a0, a1, a2, a3, a4, a5, a6⟩ := a
    obtain ⟨b0, b1, b2, b3, b4, b5, b6⟩ := b
    obtain ⟨h0, h1, h2, h3, h4, h5, h6⟩ := h
    simp only at h0 h1 h2 h3 h4 h5 h6
    subst h0 h1 h2 h3 h4 h5 h6
    rfl) else .isFalse fun e => h (by subst e; exact ⟨rfl, rfl, rfl, rfl, rfl, rfl, rfl⟩)
structure Ext where
  head : Header
  base : Int
def noHead : Header := ⟨0, ⟨#[]⟩, 0, 0, 0, ⟨#[]⟩, ⟨#[]⟩⟩
def headText (h : Header) : List UInt8 := h.fields.data.toList ++ h.tag.data.toList
def hdrT (s : ByteArray) : Header × Int := if s.size = 98 ∧ s.extract 0 4 = ⟨#[83, 76, 71, 49]⟩ ∧ (headOf s).check ≠ 1 then (headOf s, 0) else (noHead, 2)
def cutL (s : List UInt8) (a n : Nat) : List UInt8 := (s.drop a).take n
def leafV (b : List UInt8) : List UInt8 := Sha.sum (0 :: b)
end Go.Proofs.YtkifimkcmfglmaaGreatDoor
namespace Go.Proofs.YtkifimkcmfglmaaGreatDoor
open Go.RowKit Abs
theorem num_from (l : List UInt8) : ∀ a : Nat, l.foldl (fun n c => n * 256 + c.toNat) a = a * 256 ^ l.length + l.foldl (fun n c => n * 256 + c.toNat) 0 := by
  induction l with
  | nil => intro a; simp
  | cons c l ih =>
    intro a
    rw [List.foldl_cons, List.foldl_cons, ih, ih (0 * 256 + c.toNat), List.length_cons, Nat.pow_succ]
    rw [Nat.add_mul, Nat.zero_mul, Nat.zero_add, Nat.mul_assoc, Nat.mul_comm 256 (256 ^ l.length)]
    omega
theorem num_cons (c : UInt8) (l : List UInt8) : Sha.num (c :: l) = c.toNat * 256 ^ l.length + Sha.num l := by
  unfold Sha.num
  rw [List.foldl_cons, num_from]
  simp
theorem num_fixed (n : Nat) : ∀ k : Nat, Sha.num (Sha.fixed (n : Int) k) = n % 256 ^ k
  | 0 => by
    have : Sha.fixed (n : Int) 0 = [] := List.eq_nil_of_length_eq_zero (Sha.fixed_length _ _)
    rw [this]; simp [Sha.num]; omega
  | k + 1 => by
    rw [fixed_cons, num_cons, Sha.fixed_length, num_fixed n k]
    have e : ((n : Int) / 256 ^ k % 256).toNat = n / 256 ^ k % 256 := by
      have : ((n : Int) / 256 ^ k % 256) = ((n / 256 ^ k % 256 : Nat) : Int) := by rw [Int.natCast_emod, Int.natCast_ediv, Int.natCast_pow]; rfl
      rw [this, Int.toNat_natCast]
    rw [e]
    have hb : (UInt8.ofNat (n / 256 ^ k % 256)).toNat = n / 256 ^ k % 256 := by
      rw [UInt8.toNat_ofNat']
      omega
    rw [hb, Nat.pow_succ]
    have h1 := Nat.div_add_mod n (256 ^ k)
    have h2 := Nat.div_add_mod (n / 256 ^ k) 256
    have h3 : n % (256 ^ k * 256) = 256 ^ k * (n / 256 ^ k % 256) + n % 256 ^ k := by rw [Nat.mod_mul, Nat.add_comm]
    rw [h3, Nat.mul_comm]
theorem num_fixed_of {n : Int} {k : Nat} (h0 : 0 ≤ n) (h : n < 256 ^ k) : (Sha.num (Sha.fixed n k) : Int) = n := by
  obtain ⟨m, rfl⟩ := Int.eq_ofNat_of_zero_le h0
  rw [num_fixed]
  have : (m : Int) < ((256 ^ k : Nat) : Int) := by rw [Int.natCast_pow]; exact h
  rw [Nat.mod_eq_of_lt (by omega)]
theorem ba_ext {s t : ByteArray} (h : s.data.toList = t.data.toList) : s = t := ByteArray.ext (Array.ext' h)
theorem headText_eq (h : Header) : headText h = [83, 76, 71, 49] ++ Sha.fixed h.id 4 ++ h.salt.data.toList ++ Sha.fixed h.n 2 ++ Sha.fixed h.bytes 4 ++ Sha.fixed h.raw 4 ++ h.root.data.toList ++ h.tag.data.toList := by
  unfold headText Header.fields
  simp [str]
theorem cut_app {a b c : List UInt8} {i n : Nat} (ha : a.length = i) (hb : b.length = n) : ((a ++ (b ++ c)).drop i).take n = b := by
  subst ha; subst hb
  rw [List.drop_left, List.take_left]
theorem hdrT_text (h : Header) (hok : h.okP) : hdrT (str (headText h)) = (h, 0) ∧ (headText h).length = 98 := by
  obtain ⟨id, salt, n, bytes, raw, root, tag⟩ := h
  obtain ⟨h1, h2, h3, h4, h5, h6, h7, h8, h9, h10⟩ := hok
  simp only at h1 h2 h3 h4 h5 h6 h7 h8 h9 h10
  have l1 := Sha.fixed_length 4 id
  have l2 := Sha.fixed_length 2 n
  have l3 := Sha.fixed_length 4 bytes
  have l4 := Sha.fixed_length 4 raw
  have z3 : salt.data.toList.length = 16 := by rw [Array.length_toList]; exact h3
  have z4 : root.data.toList.length = 32 := by rw [Array.length_toList]; exact h4
  have z5 : tag.data.toList.length = 32 := by rw [Array.length_toList]; exact h5
  have hT := headText_eq ⟨id, salt, n, bytes, raw, root, tag⟩
  simp only at hT
  have hlen : (headText ⟨id, salt, n, bytes, raw, root, tag⟩).length = 98 := by
    rw [hT]; simp only [List.length_append, l1, l2, l3, l4, z3, z4, z5]; rfl
  refine ⟨?_, hlen⟩
  obtain ⟨T, hTT⟩ : ∃ T, T = headText ⟨id, salt, n, bytes, raw, root, tag⟩ := ⟨_, rfl⟩
  rw [← hTT] at hT hlen ⊢
  have ex : ∀ a b, ((str T).extract a b) = str ((T.drop a).take (b - a)) := fun a b => by rw [Lib.extract_eq]; rfl
  have e0 : (T.drop 0).take 4 = [83, 76, 71, 49] := by rw [hT]; rfl
  have p1 : (T.drop 4).take 4 = Sha.fixed id 4 := by rw [hT]; simp only [List.append_assoc]; exact cut_app (a := [83, 76, 71, 49]) rfl l1
  have p2 : (T.drop 8).take 16 = salt.data.toList := by rw [hT]; simp only [List.append_assoc]; rw [← List.append_assoc [83, 76, 71, 49]]; exact cut_app (by rw [List.length_append, l1]; rfl) z3
  have p3 : (T.drop 24).take 2 = Sha.fixed n 2 := by rw [hT]; rw [List.append_assoc, List.append_assoc, List.append_assoc, List.append_assoc]; exact cut_app (by simp only [List.length_append, l1, z3]; rfl) l2
  have p4 : (T.drop 26).take 4 = Sha.fixed bytes 4 := by rw [hT]; rw [List.append_assoc, List.append_assoc, List.append_assoc]; exact cut_app (by simp only [List.length_append, l1, l2, z3]; rfl) l3
  have p5 : (T.drop 30).take 4 = Sha.fixed raw 4 := by rw [hT]; rw [List.append_assoc, List.append_assoc]; exact cut_app (by simp only [List.length_append, l1, l2, l3, z3]; rfl) l4
  have p6 : (T.drop 34).take 32 = root.data.toList := by rw [hT]; rw [List.append_assoc]; exact cut_app (by simp only [List.length_append, l1, l2, l3, l4, z3]; rfl) z4
  have p7 : (T.drop 66).take 32 = tag.data.toList := by
    rw [hT, List.drop_left' (by simp only [List.length_append, l1, l2, l3, l4, z3, z4]; rfl), List.take_of_length_le (by omega)]
  have nm : ∀ a k, a + k ≤ 98 → numAt (str T) a k = Sha.num ((T.drop a).take k) := fun a k hak => by
    unfold numAt
    rw [ex]
    show Sha.num (((T.drop a).take (98 - a)).take k) = _
    rw [List.take_take, show min k (98 - a) = k by omega]
  have hhead : headOf (str T) = ⟨id, salt, n, bytes, raw, root, tag⟩ := by
    unfold headOf
    rw [nm 4 4 (by decide), nm 24 2 (by decide), nm 26 4 (by decide), nm 30 4 (by decide), ex 8 24, ex 34 66, ex 66 98, p1, p2, p3, p4, p5, p6, p7,
      num_fixed_of (by omega) (by omega), num_fixed_of (by omega) (by omega), num_fixed_of (by omega) (by omega), num_fixed_of (by omega) (by omega)]
    rfl
  unfold hdrT
  have hc : Header.check ⟨id, salt, n, bytes, raw, root, tag⟩ = 0 := (Header.check_zero _).2 ⟨h1, h2, h3, h4, h5, h6, h7, h8, h9, h10⟩
  rw [hhead, if_pos ⟨by rw [str_size]; exact hlen, by rw [ex 0 4, e0]; rfl, by rw [hc]; decide⟩]
theorem okP_n {h : Header} (hk : h.okP) : 1 ≤ h.n ∧ h.n ≤ 256 := by
  obtain ⟨_, _, _, _, _, h6, h7, h8, _⟩ := hk
  omega
end Go.Proofs.YtkifimkcmfglmaaGreatDoor
namespace Go.Proofs.YtkifimkcmfglmaaGreatDoor
open Go.RowKit
def sizesB (xs : List ByteArray) : Bool := xs.all fun s => decide (s.size = 224)
def shapeB (h : Header) (xs : List ByteArray) : Bool := decide ((xs.length : Int) = h.n) && sizesB xs
def flatB (xs : List ByteArray) : List UInt8 := xs.flatMap fun s => s.data.toList
def putA (h : Header) (xs : List ByteArray) : List UInt8 × Int :=
  if h.check = 0 then (if shapeB h xs = true then (headText h ++ flatB xs, 0) else ([], 2)) else ([], 1)
def blocksL (s : List UInt8) (n : Nat) : List ByteArray := (List.range n).map fun i => str (cutL s (98 + 224 * i) 224)
def takeA (s : List UInt8) : (Header × List ByteArray) × Int :=
  if s.length < 98 then ((noHead, []), 2) else
  if (hdrT (str (s.take 98))).2 ≠ 0 ∨ ((s.length : Int) - 98) ≠ (hdrT (str (s.take 98))).1.n * 224 then ((noHead, []), 2) else
  (((hdrT (str (s.take 98))).1, blocksL s (hdrT (str (s.take 98))).1.n.toNat), 0)
theorem fixed_numb : ∀ (l : List UInt8), Sha.fixed (Sha.num l : Nat) l.length = l := by
  intro l
  have key : ∀ (r : List UInt8), Sha.fixed (Sha.num r.reverse : Nat) r.length = r.reverse := by
    intro r
    induction r with
    | nil => rfl
    | cons c r ih =>
      rw [List.reverse_cons, Sha.num_snoc, List.length_cons, Sha.fixed]
      have hc := c.toNat_lt
      have e1 : (((Sha.num r.reverse * 256 + c.toNat : Nat) : Int) / 256) = (Sha.num r.reverse : Nat) := by omega
      have e2 : (((Sha.num r.reverse * 256 + c.toNat : Nat) : Int) % 256).toNat = c.toNat := by omega
      rw [e1, e2, ih]
      simp
  have := key l.reverse
  rw [List.reverse_reverse, List.length_reverse] at this
  exact this
theorem cuts_app (s : List UInt8) (a n m : Nat) : cutL s a n ++ cutL s (a + n) m = cutL s a (n + m) := by
  unfold cutL
  rw [← List.drop_drop, ← List.take_add]
theorem hdrT_back (s : List UInt8) (h : (hdrT (str s)).2 = 0) : headText (hdrT (str s)).1 = s ∧ (hdrT (str s)).1.okP ∧ s.length = 98 := by
  unfold hdrT at h ⊢
  split at h
  case isFalse => cases h
  rename_i hc
  rw [if_pos hc]
  obtain ⟨hs, hm, hck⟩ := hc
  have hl : s.length = 98 := by rw [str_size] at hs; exact hs
  have hok : (headOf (str s)).check = 0 := by rcases (headOf (str s)).check_cases with h | ⟨h, -⟩; exact absurd h hck; exact h
  refine ⟨?_, (Header.check_zero _).1 hok, hl⟩
  have ex : ∀ a b, ((str s).extract a b).data.toList = cutL s a (b - a) := fun a b => by rw [Lib.extract_eq]; rfl
  have e0 : cutL s 0 4 = [83, 76, 71, 49] := by rw [← ex 0 4, hm]
  have nm : ∀ a k, a + k ≤ 98 → Sha.fixed (numAt (str s) a k : Nat) k = cutL s a k := fun a k hak => by
    unfold numAt
    rw [ex]
    have h1 : (cutL s a (98 - a)).take k = cutL s a k := by unfold cutL; rw [List.take_take, show min k (98 - a) = k by omega]
    rw [h1]
    have h2 : (cutL s a k).length = k := by unfold cutL; simp; omega
    have := fixed_numb (cutL s a k)
    rw [h2] at this
    exact this
  rw [headText_eq]
  show [83, 76, 71, 49] ++ Sha.fixed (numAt (str s) 4 4 : Nat) 4 ++ ((str s).extract 8 24).data.toList ++ Sha.fixed (numAt (str s) 24 2 : Nat) 2 ++ Sha.fixed (numAt (str s) 26 4 : Nat) 4 ++ Sha.fixed (numAt (str s) 30 4 : Nat) 4 ++
    ((str s).extract 34 66).data.toList ++ ((str s).extract 66 98).data.toList = s
  rw [nm 4 4 (by decide), nm 24 2 (by decide), nm 26 4 (by decide), nm 30 4 (by decide), ex, ex, ex, ← e0, cuts_app s 0 4 4, cuts_app s 0 (4 + 4) (24 - 8), cuts_app s 0 (4 + 4 + (24 - 8)) 2, cuts_app s 0 (4 + 4 + (24 - 8) + 2) 4, cuts_app s 0 (4 + 4 + (24 - 8) + 2 + 4) 4, cuts_app s 0 (4 + 4 + (24 - 8) + 2 + 4 + 4) (66 - 34), cuts_app s 0 (4 + 4 + (24 - 8) + 2 + 4 + 4 + (66 - 34)) (98 - 66)]
  unfold cutL
  rw [List.drop_zero, List.take_of_length_le (by omega)]
theorem flatB_len (xs : List ByteArray) (h : sizesB xs = true) : (flatB xs).length = 224 * xs.length := by
  unfold sizesB at h
  induction xs with
  | nil => rfl
  | cons x r ih =>
    rw [List.all_cons, Bool.and_eq_true, decide_eq_true_eq] at h
    unfold flatB at ih ⊢
    have h1 : x.data.toList.length = 224 := by rw [Array.length_toList]; exact h.1
    rw [List.flatMap_cons, List.length_append, ih h.2, h1, List.length_cons]
    omega
theorem flatB_cut (a : List UInt8) (xs : List ByteArray) (h : sizesB xs = true) : ∀ i, i < xs.length → cutL (a ++ flatB xs) (a.length + 224 * i) 224 = (xs.getD i ⟨#[]⟩).data.toList := by
  unfold sizesB at h
  induction xs generalizing a with
  | nil => intro i hi; simp at hi
  | cons x r ih =>
    intro i hi
    rw [List.all_cons, Bool.and_eq_true, decide_eq_true_eq] at h
    have h1 : x.data.toList.length = 224 := by rw [Array.length_toList]; exact h.1
    unfold flatB at ih ⊢
    rw [List.flatMap_cons, ← List.append_assoc]
    cases i with
    | zero =>
      unfold cutL
      rw [List.append_assoc, Nat.mul_zero, Nat.add_zero, List.drop_left, List.take_left' h1]
      rfl
    | succ i =>
      have := ih (a ++ x.data.toList) h.2 i (by simpa using hi)
      rw [List.length_append, h1] at this
      rw [show a.length + 224 * (i + 1) = a.length + 224 + 224 * i by omega, this]
      rfl
theorem blocks_put (a : List UInt8) (ha : a.length = 98) (xs : List ByteArray) (h : sizesB xs = true) : blocksL (a ++ flatB xs) xs.length = xs := by
  apply List.ext_getElem?
  intro i
  unfold blocksL
  by_cases hi : i < xs.length
  · rw [List.getElem?_map, List.getElem?_range hi, List.getElem?_eq_getElem hi]
    simp only [Option.map_some]
    congr 1
    have := flatB_cut a xs h i hi
    rw [ha] at this
    rw [this]
    apply ba_ext
    show (xs.getD i ⟨#[]⟩).data.toList = _
    rw [List.getD_eq_getElem?_getD, List.getElem?_eq_getElem hi]
    rfl
  · rw [List.getElem?_eq_none (by simp; omega), List.getElem?_eq_none (by omega)]
theorem blocks_sizes (s : List UInt8) (n : Nat) (h : s.length = 98 + 224 * n) : sizesB (blocksL s n) = true := by
  unfold sizesB blocksL
  rw [List.all_eq_true]
  intro x hx
  obtain ⟨i, hi, rfl⟩ := List.mem_map.1 hx
  rw [List.mem_range] at hi
  rw [decide_eq_true_eq, str_size]
  unfold cutL
  rw [List.length_take, List.length_drop]
  omega
theorem flat_blocks (s : List UInt8) : ∀ n, flatB (blocksL s n) = cutL s 98 (224 * n)
  | 0 => by unfold cutL; rfl
  | n + 1 => by
    have ih := flat_blocks s n
    unfold flatB blocksL at ih ⊢
    rw [List.range_succ, List.map_append, List.flatMap_append, ih]
    show cutL s 98 (224 * n) ++ (cutL s (98 + 224 * n) 224 ++ []) = _
    rw [List.append_nil, cuts_app]
    rfl
theorem take_put (h : Header) (xs : List ByteArray) (e : (putA h xs).2 = 0) : takeA (putA h xs).1 = ((h, xs), 0) := by
  unfold putA at e ⊢
  split at e
  case isFalse => cases e
  rename_i h1
  split at e
  case isFalse => cases e
  rename_i h2
  rw [if_pos h1, if_pos h2]
  unfold shapeB at h2
  rw [Bool.and_eq_true, decide_eq_true_eq] at h2
  have ⟨t1, t2⟩ := hdrT_text h (h.check_zero.1 h1)
  have hf := flatB_len xs h2.2
  unfold takeA
  have e1 : (headText h ++ flatB xs).take 98 = headText h := List.take_left' t2
  simp only [e1, t1]
  rw [if_neg (by rw [List.length_append, t2]; omega), if_neg (by rw [List.length_append, t2, hf]; intro hx; rcases hx with hx | hx; exact hx rfl; apply hx; omega), ← h2.1, Int.toNat_natCast, blocks_put _ t2 xs h2.2]
theorem put_take (s : List UInt8) (e : (takeA s).2 = 0) : putA (takeA s).1.1 (takeA s).1.2 = (s, 0) := by
  unfold takeA at e ⊢
  split at e
  case isTrue => cases e
  rename_i h1
  split at e
  case isTrue => cases e
  rename_i h2
  rw [if_neg h1, if_neg h2]
  have h3 : (hdrT (str (s.take 98))).2 = 0 := Decidable.byContradiction fun h => h2 (.inl h)
  have h4 : (s.length : Int) - 98 = (hdrT (str (s.take 98))).1.n * 224 := Decidable.byContradiction fun h => h2 (.inr h)
  obtain ⟨b1, b2, b3⟩ := hdrT_back _ h3
  generalize (hdrT (str (s.take 98))).1 = h at *
  obtain ⟨n, hn⟩ : ∃ n : Nat, h.n = (n : Int) := ⟨h.n.toNat, by omega⟩
  have hl : s.length = 98 + 224 * n := by omega
  have hs := blocks_sizes s n hl
  unfold putA
  rw [hn, Int.toNat_natCast]
  have hsh : shapeB h (blocksL s n) = true := by
    unfold shapeB
    rw [Bool.and_eq_true, decide_eq_true_eq, hn]
    exact ⟨by simp [blocksL], hs⟩
  simp only
  rw [if_pos (h.check_zero.2 b2), if_pos hsh, b1, flat_blocks]
  congr 1
  have : s.take 98 = cutL s 0 98 := by unfold cutL; rfl
  rw [this, show (98 : Nat) = 0 + 98 by rfl, cuts_app]
  unfold cutL
  rw [List.drop_zero, List.take_of_length_le (by omega)]
end Go.Proofs.YtkifimkcmfglmaaGreatDoor
namespace Go.Proofs.YtkifimkcmfglmaaGreatDoor
open Go.RowKit Abs
theorem Abs.Spec.of_empty {P : Program} {k : FuncId} {xs : List Value} {v : Value} (hx : ∀ x ∈ xs, flat 3 x = true) (hv : flat 3 v = true) (h : Abs.Spec P k xs ⟨[]⟩ fun u _ => u = v) (m : Mem) :
    Abs.Spec P k xs m fun u m' => u = v ∧ m' = m :=
  Abs.Spec.of_below hv fun ι w ys hy hr => by rw [flats_eq hx hy]; exact Calls.of_flat_val hx hv h w hr.glob.known
end Go.Proofs.YtkifimkcmfglmaaGreatDoor
namespace Go.Proofs.YtkifimkcmfglmaaGreatDoor
open Go.RowKit Abs
structure More (M M' : Mem) : Prop where
  get : ∀ b x, M.get b = some x → M'.get b = some x
  size : M.size ≤ M'.size
theorem More.refl (M : Mem) : More M M := ⟨fun _ _ h => h, Nat.le_refl _⟩
theorem More.trans {M M' M'' : Mem} (h : More M M') (k : More M' M'') : More M M'' := ⟨fun b x hb => k.get b x (h.get b x hb), Nat.le_trans h.size k.size⟩
theorem More.push (M : Mem) (y : Blk) : More M (M.push y) := ⟨fun b x hb => by rw [Mem.get_push_old (Mem.get_lt hb)]; exact hb, by rw [Mem.size_push]; omega⟩
end Go.Proofs.YtkifimkcmfglmaaGreatDoor
namespace Go.Proofs.YtkifimkcmfglmaaGreatDoor
open Go.RowKit Abs
theorem slice_to (get : Nat → Option Blk) (s : ByteArray) (k : Nat) (h : k ≤ s.size) : gSlice Tryz.prog get 9 (.string s) none (some (.int .i64 (k : Int))) = some (.string (str (s.data.toList.take k))) := by
  have hbs : bsize s = s.size := rfl
  unfold gSlice aBound
  simp only [Tryz.underlying9, hbs]
  rw [if_pos (by omega)]
  rfl
theorem slice_mid (get : Nat → Option Blk) (l : List UInt8) (a b : Nat) (h : a ≤ b) (hb : b ≤ l.length) :
    gSlice Tryz.prog get 9 (.string (str l)) (some (.int .i64 (a : Nat))) (some (.int .i64 (b : Nat))) = some (.string (str ((l.drop a).take (b - a)))) := by
  have hbs : bsize (str l) = l.length := rfl
  unfold gSlice aBound
  simp only [Tryz.underlying9, hbs]
  rw [if_pos (by omega), if_pos (by omega)]
  rfl
theorem slice_tail (get : Nat → Option Blk) (l : List UInt8) (a : Nat) (h : a ≤ l.length) :
    gSlice Tryz.prog get 9 (.string (str l)) (some (.int .i64 (a : Nat))) none = some (.string (str (l.drop a))) := by
  have hbs : bsize (str l) = l.length := rfl
  unfold gSlice aBound
  simp only [Tryz.underlying9, hbs]
  rw [if_pos (by omega)]
  show some (Value.string (str ((l.drop a).take (l.length - a)))) = _
  rw [List.take_of_length_le (by simp)]
end Go.Proofs.YtkifimkcmfglmaaGreatDoor
namespace Go.Proofs.YtkifimkcmfglmaaGreatDoor
open Go.RowKit Abs
theorem check_01 (h : Header) : h.check = 0 ∨ h.check = 1 := by
  unfold Header.check
  repeat' split
  all_goals simp
theorem hcheck_at (h : Header) (m : Mem) : Abs.Spec Tryz.prog 32 [.agg h.cells.toArray] m fun u M => u = .int .i64 h.check ∧ M = m :=
  Abs.Spec.of_flat (by intro x hx; simp at hx; subst hx; rfl) rfl fun w => check_any h w
theorem hfields_at (h : Header) (hk : h.okP) (m : Mem) : Abs.Spec Tryz.prog 33 [.agg h.cells.toArray] m fun u M => u = .string h.fields ∧ M = m :=
  Abs.Spec.of_flat (by intro x hx; simp at hx; subst hx; rfl) rfl fun w => fields_any h (by have := hk.2.2.1; omega) (by have := hk.2.2.2.1; omega) w
def hdrTV (s : ByteArray) : Value := .tuple #[.agg (hdrT s).1.cells.toArray, .int .i64 (hdrT s).2]
theorem htakeAny_eq (s : ByteArray) : htakeAny s = hdrTV s := by
  unfold htakeAny htakeV hdrTV hdrT
  by_cases h1 : s.size = 98
  · by_cases h2 : s.extract 0 4 = ⟨#[83, 76, 71, 49]⟩
    · by_cases h3 : (headOf s).check = 1
      · rw [if_pos h1, if_pos h2, if_pos h3, if_neg (fun h => h.2.2 h3)]; rfl
      · rw [if_pos h1, if_pos h2, if_neg h3, if_pos ⟨h1, h2, h3⟩]; rfl
    · rw [if_pos h1, if_neg h2, if_neg (fun h => h2 h.2.1)]; rfl
  · rw [if_neg h1, if_neg (fun h => h1 h.1)]; rfl
theorem htake_at (s : ByteArray) (m : Mem) : Abs.Spec Tryz.prog 19 [.string s] m fun u M => u = hdrTV s ∧ M = m :=
  Abs.Spec.of_flat (by intro x hx; simp at hx; subst hx; rfl) rfl fun w => by rw [← htakeAny_eq]; exact htake_any s w
theorem headText_len {h : Header} (hk : h.okP) : (headText h).length = 98 := by
  have h1 := h.fields_size
  obtain ⟨_, _, a, b, c, _⟩ := hk
  unfold headText
  rw [List.length_append]
  show h.fields.size + h.tag.size = 98
  omega
def putT (h : Header) : ByteArray := if h.check = 0 then str (headText h) else ⟨#[]⟩
set_option maxRecDepth 100000 in
set_option maxHeartbeats 2000000 in
theorem hput_spec (h : Header) (m : Mem) :
    Abs.Spec Tryz.prog 14 [.agg h.cells.toArray] m fun u M => u = .tuple #[.string (putT h), .int .i64 h.check] ∧ More m M := by
  refine WMx Tryz.func14 Tryz.results14 Tryz.ntmps14 fun hc hx k => ?_
  have bx : nBox Tryz.prog 23 (.agg h.cells.toArray) = some (.cells false (aStride Tryz.prog 23) h.cells) := bx_Hdr _ rfl
  generalize aStride Tryz.prog 23 = s1 at bx
  have row : rowIn 7 0 (some (.cells false s1 h.cells)) = some (.agg h.cells.toArray) := rfl
  have k6 : cellIn 6 (some (.cells false s1 h.cells)) = some (.string h.tag) := rfl
  have q00 : ((0 : Int) != 0) = false := rfl
  have q10 : ((1 : Int) != 0) = true := rfl
  have mo := More.push m (.cells false s1 h.cells)
  refine CW_seq (R1 @bx ?_)
  refine CW_seq (CW_seq (R2 @Mem.get_push_new @row ?_))
  refine K0 (hcheck_at h _) ?_
  obtain ⟨r, hr⟩ : ∃ r, r = putT h := ⟨_, rfl⟩
  rw [← hr]
  unfold putT at hr
  rcases check_01 h with e | e
  · rw [if_pos e] at hr
    have hok := h.check_zero.1 e
    have hcat : bsize h.fields + bsize h.tag ≤ 4611686018427387904 := by
      have h1 := h.fields_size
      obtain ⟨_, _, a, b, c, _⟩ := hok
      show h.fields.size + h.tag.size ≤ _
      omega
    have hcat2 : bcat h.fields h.tag = r := hr.symm
    rw [e]
    refine CW_seq (R1 @q00 ?_)
    refine CF (CW_skip ?_)
    simp only [zZ, reduceIte, Nat.reduceLT, Int.reduceToNat, Int.reduceLE, Int.reduceEq, Int.reduceLT, Nat.reduceEqDiff, Nat.reduceAdd]
    refine CW_seq (D3 4 @Mem.get_push_new @row @k6 ?_)
    refine ⟨by kernel_rfl, _, hfields_at h hok _, ?_⟩
    refine S3 @Mem.get_push_new @row @k6 ?_
    refine ⟨hcat, ?_⟩
    refine S1 @hcat2 ?_
    refine T0 ?_
    exact ⟨_, Thin.refl _, mo⟩
  · rw [if_neg (by rw [e]; decide)] at hr
    rw [e]
    refine CW_seq (R1 @q10 ?_)
    refine CT (CW_seq (R0 ?_))
    refine T0 ?_
    exact ⟨_, Thin.refl _, by rw [hr], mo⟩
end Go.Proofs.YtkifimkcmfglmaaGreatDoor
namespace Go.Proofs.YtkifimkcmfglmaaGreatDoor.Abs
open Go
def pureOp (o : Op) : Bool := match o with
  | .move _ => true
  | .assign _ => true
  | .binOp .. => true
  | .fieldAddr .. => true
  | .indexAddr .. => true
  | .extract .. => true
  | .nilCheck _ => true
  | .build .. => true
  | .unOp .. => true
  | .field .. => true
  | .index .. => true
  | .pick .. => true
  | .call c => match c.callee with
    | .builtin .len => true
    | _ => false
  | _ => false
def isLoad (o : Op) : Bool := match o with
  | .load .. => true
  | _ => false
def isAlloc (o : Op) : Bool := match o with
  | .alloc _ => true
  | _ => false
def isRead (o : Op) : Bool := match o with
  | .load .. => true
  | .slice _ _ _ _ none => true
  | _ => false
def isNew (o : Op) : Bool := match o with
  | .alloc _ => true
  | .box .. => true
  | .buildSlice .. => true
  | _ => false
def commO (p o : Op) : Bool := pureOp p || ((pureOp o && noCall p) || (isRead p && (isRead o || isNew o)))
section
variable [Defs]
section
variable {P : Program} {ops : Array Oper}
theorem pure_mem {P : Program} {o : Op} (h : pureOp o = true) {a : List Value} {M M1 : Mem} {v : Value} (he : evOp P o a M = some (v, M1)) (M' : Mem) : evOp P o a M' = some (v, M') := by
  have pv : ∀ {x : Option Value}, pureV x M = some (v, M1) → pureV x M' = some (v, M') := fun {x} hx => by
    cases x with
    | none => cases hx
    | some y => simp only [pureV, Option.some.injEq, Prod.mk.injEq] at hx ⊢; exact ⟨hx.1, trivial⟩
  cases o <;> simp only [pureOp] at h <;> first | (cases h; done) | skip
  case call c =>
    cases c with
    | mk callee args ts =>
    simp only at h
    split at h
    · simp only [evOp, evBuiltin] at he ⊢
      repeat' (split at he <;> first | (cases he; done) | skip)
      simp only [Option.some.injEq, Prod.mk.injEq] at he
      simp_all
    · cases h
  all_goals
    simp only [evOp] at he ⊢
    repeat' (split at he <;> first | (cases he; done) | skip)
    all_goals first | exact pv he | (simp only [Option.some.injEq, Prod.mk.injEq] at he; rw [he.1])
theorem pure_noCall {o : Op} (h : pureOp o = true) : noCall o = true := by
  cases o <;> first | rfl | (cases h; done) | skip
  rename_i c
  obtain ⟨callee, args, ts⟩ := c
  cases callee <;> first | rfl | (cases h; done)
theorem read_noCall {o : Op} (h : isRead o = true) : noCall o = true := by cases o <;> first | rfl | (cases h; done)
theorem new_noCall {o : Op} (h : isNew o = true) : noCall o = true := by cases o <;> first | rfl | (cases h; done)
theorem read_mono {o : Op} (h : isRead o = true) {a : List Value} {M M1 : Mem} {v : Value} (he : evOp P o a M = some (v, M1)) : M1 = M ∧ ∀ M' : Mem, (∀ b x, M.get b = some x → M'.get b = some x) → evOp P o a M' = some (v, M') := by
  cases o <;> first | (cases h; done) | skip
  case load t p =>
    simp only [evOp] at he ⊢
    cases hp : aEval a p with
    | none => rw [hp] at he; cases he
    | some q =>
      rw [hp] at he
      simp only at he ⊢
      have e : ∀ M : Mem, aLoad P M t q = gLoad P M.get t q := fun _ => rfl
      rw [e] at he
      cases hl : gLoad P M.get t q with
      | none => rw [hl] at he; cases he
      | some u =>
        rw [hl] at he
        simp only [pureV, Option.some.injEq, Prod.mk.injEq] at he
        obtain ⟨rfl, rfl⟩ := he
        exact ⟨rfl, fun M' hm => by rw [e, gLoad_mono hm hl]; rfl⟩
  case slice t x lo hi mx =>
    cases mx with
    | some _ => cases h
    | none =>
    simp only [evOp] at he ⊢
    cases hs : aEval a x with
    | none => rw [hs] at he; cases he
    | some s =>
    rw [hs] at he
    cases hl : evOpt a lo with
    | none => rw [hl] at he; cases he
    | some l =>
    rw [hl] at he
    cases hk : evOpt a hi with
    | none => rw [hk] at he; cases he
    | some k =>
    rw [hk] at he
    simp only at he ⊢
    have e : ∀ M : Mem, aSlice P M t s l k = gSlice P M.get t s l k := fun _ => rfl
    rw [e] at he
    cases hu : gSlice P M.get t s l k with
    | none => rw [hu] at he; cases he
    | some u =>
      rw [hu] at he
      simp only [pureV, Option.some.injEq, Prod.mk.injEq] at he
      obtain ⟨rfl, rfl⟩ := he
      exact ⟨rfl, fun M' hm => by rw [e, gSlice_mono hm hu]; rfl⟩
theorem new_push {o : Op} (h : isNew o = true) {a : List Value} {M M1 : Mem} {v : Value} (he : evOp P o a M = some (v, M1)) : ∃ x, M1 = M.push x := by
  cases o <;> first | (cases h; done) | skip
  all_goals
    simp only [evOp, aAlloc, aBox, aBuildSlice] at he
    repeat' (split at he <;> first | (cases he; done) | skip)
    cases he
    exact ⟨_, rfl⟩
structure Swap (ops : Array Oper) (p o : Oper) : Prop where
  gp : p.guard = none
  go : o.guard = none
  a1 : ∀ t, p.dst = some t → t ∉ o.looksAt ops
  a2 : ∀ t, p.dst = some t → o.dst ≠ some t
  a3 : ∀ t, o.dst = some t → t ∉ p.looksAt ops
  cm : commO p.op o.op = true
theorem aPut_swap {a : List Value} {d e : Option Nat} {u v : Value} (h : ∀ t, d = some t → e ≠ some t) : aPut (aPut a d u) e v = aPut (aPut a e v) d u := by
  cases d with
  | none => rfl
  | some t =>
    cases e with
    | none => rfl
    | some s =>
      have : t ≠ s := fun x => h t rfl (by rw [x])
      exact List.set_comm _ _ this
theorem ev_put {o : Oper} {a : List Value} {d : Option Nat} {u : Value} (h : ∀ t, d = some t → t ∉ o.looksAt ops) : ∀ x ∈ o.op.operands, aEval (aPut a d u) x = aEval a x :=
  ev_looks (ops := ops) fun t ht => aPut_get _ _ _ _ fun e => h t e ht
theorem Swap.noCall {p o : Oper} (h : Swap ops p o) : noCall p.op = true := by
  have := h.cm
  unfold commO at this
  simp only [Bool.or_eq_true, Bool.and_eq_true] at this
  rcases this with h | ⟨_, h⟩ | ⟨h, _⟩
  · exact pure_noCall h
  · exact h
  · exact read_noCall h
theorem pullE {o : Oper} {l2 : List Oper} {Q : List Value → Mem → Prop} (ho : Abs.noCall o.op = true) (hg : o.guard = none) : ∀ (l1 : List Oper) (_ : ∀ p ∈ l1, Swap ops p o) (F : List Value) (W : Mem), aOps P ops.toList Q (l1 ++ o :: l2) F W →
    ∃ v W', evOp P o.op F W = some (v, W') ∧ aOps P ops.toList Q (l1 ++ l2) (aPut F o.dst v) W'
  | [], _, F, W, h => by
    simp only [List.nil_append, aOps] at h
    rw [if_pos (wanted_free hg _)] at h
    rcases h with ⟨v, W', h1, h2⟩ | ⟨k, xs, R, h1, _⟩ | ⟨R, h1, _⟩
    · exact ⟨v, W', h1, h2⟩
    · rw [noCall_ev ho] at h1; cases h1
    · rw [noAny_ev ho] at h1; cases h1
  | p :: l1, hs, F, W, h => by
    have sp := hs p List.mem_cons_self
    simp only [List.cons_append, aOps] at h
    rw [if_pos (wanted_free sp.gp _)] at h
    have h : ∃ u W1, evOp P p.op F W = some (u, W1) ∧ aOps P ops.toList Q (l1 ++ o :: l2) (aPut F p.dst u) W1 := by
      rcases h with h | ⟨k, xs, R, h1, _⟩ | ⟨R, h1, _⟩
      · exact h
      · rw [noCall_ev sp.noCall] at h1; cases h1
      · rw [noAny_ev sp.noCall] at h1; cases h1
    obtain ⟨u, W1, h1, h2⟩ := h
    obtain ⟨v, W2, h3, h4⟩ := pullE ho hg l1 (fun q hq => hs q (List.mem_cons_of_mem _ hq)) _ _ h2
    have e1 : evOp P o.op F W1 = some (v, W2) := by rw [← h3]; exact (evOp_congr P o.op W1 (ev_put sp.a1)).symm
    have e2 : ∀ M, evOp P p.op (aPut F o.dst v) M = evOp P p.op F M := fun M => evOp_congr P p.op M (ev_put sp.a3)
    have key : ∃ W', evOp P o.op F W = some (v, W') ∧ evOp P p.op F W' = some (u, W2) := by
      have cm := sp.cm
      unfold commO at cm
      simp only [Bool.or_eq_true, Bool.and_eq_true] at cm
      rcases cm with hp | ⟨hp, _⟩ | ⟨hp, hp2⟩
      · have := pure_mem hp h1 W
        rw [h1] at this
        cases this
        exact ⟨W2, e1, pure_mem hp h1 W2⟩
      · have := pure_mem hp e1 W1
        rw [e1] at this
        cases this
        exact ⟨W, pure_mem hp e1 W, h1⟩
      · obtain ⟨rfl, hm⟩ := read_mono hp h1
        refine ⟨W2, e1, hm W2 fun b x hb => ?_⟩
        rcases hp2 with hp2 | hp2
        · rw [(read_mono hp2 e1).1]; exact hb
        · obtain ⟨x, rfl⟩ := new_push hp2 e1
          rw [Mem.get_push_old (Mem.get_lt hb)]; exact hb
    obtain ⟨W', k1, k2⟩ := key
    refine ⟨v, W', k1, ?_⟩
    simp only [List.cons_append, aOps]
    rw [if_pos (wanted_free sp.gp _)]
    exact .inl ⟨u, W2, by rw [e2]; exact k2, by rw [← aPut_swap sp.a2]; exact h4⟩
theorem pull {o : Oper} {l2 : List Oper} {Q : List Value → Mem → Prop} (hg : o.guard = none) (hn : ∀ a m, evAny o.op a m = none) : ∀ (l1 : List Oper) (_ : ∀ p ∈ l1, Swap ops p o) (F : List Value) (W : Mem), aOps P ops.toList Q (l1 ++ o :: l2) F W →
    ∃ R : Value → Mem → Prop, OpSim P o F W R ∧ ∀ v W', R v W' → aOps P ops.toList Q (l1 ++ l2) (aPut F o.dst v) W' := by
  cases ho : Abs.noCall o.op with
  | true =>
    intro l1 hs F W h
    obtain ⟨v, W', h1, h2⟩ := pullE ho hg l1 hs F W h
    exact ⟨fun u m => u = v ∧ m = W', OpSim.op h1 ⟨rfl, rfl⟩, by rintro _ _ ⟨rfl, rfl⟩; exact h2⟩
  | false =>
    intro l1
    induction l1 with
    | nil =>
      intro _ F W h
      simp only [List.nil_append, aOps] at h
      rw [if_pos (wanted_free hg _)] at h
      rcases h with ⟨v, W', h1, h2⟩ | ⟨k, xs, R, h1, h2, h3, h4⟩ | ⟨R, h1, _⟩
      · exact ⟨fun u m => u = v ∧ m = W', OpSim.op h1 ⟨rfl, rfl⟩, by rintro _ _ ⟨rfl, rfl⟩; exact h2⟩
      · exact ⟨R, OpSim.call h1 h2 h3, h4⟩
      · rw [hn] at h1; cases h1
    | cons p l1 ih =>
      intro hs F W h
      have sp := hs p List.mem_cons_self
      have hp : pureOp p.op = true := by
        have cm := sp.cm
        unfold commO at cm
        simp only [Bool.or_eq_true, Bool.and_eq_true] at cm
        rcases cm with hp | ⟨hp, _⟩ | ⟨_, hp | hp⟩
        · exact hp
        · rw [pure_noCall hp] at ho; cases ho
        · rw [read_noCall hp] at ho; cases ho
        · rw [new_noCall hp] at ho; cases ho
      simp only [List.cons_append, aOps] at h
      rw [if_pos (wanted_free sp.gp _)] at h
      have h : ∃ u W1, evOp P p.op F W = some (u, W1) ∧ aOps P ops.toList Q (l1 ++ o :: l2) (aPut F p.dst u) W1 := by
        rcases h with h | ⟨k, xs, R, h1, _⟩ | ⟨R, h1, _⟩
        · exact h
        · rw [noCall_ev sp.noCall] at h1; cases h1
        · rw [noAny_ev sp.noCall] at h1; cases h1
      obtain ⟨u, W1, h1, h2⟩ := h
      have e0 := pure_mem hp h1 W
      rw [h1] at e0
      cases e0
      obtain ⟨R, h3, h4⟩ := ih (fun q hq => hs q (List.mem_cons_of_mem _ hq)) _ _ h2
      refine ⟨R, h3.congr fun x hx => (ev_put sp.a1 x hx).symm, fun v W' hR => ?_⟩
      simp only [List.cons_append, aOps]
      rw [if_pos (wanted_free sp.gp _)]
      refine .inl ⟨u, W', ?_, by rw [← aPut_swap sp.a2]; exact h4 v W' hR⟩
      rw [evOp_congr P p.op W' (ev_put sp.a3)]
      exact pure_mem hp h1 W'
def commAt (ops : Array Oper) (j i : Nat) : Bool := match ops[j]? with
  | some p => match ops[i]? with
    | some o => commO p.op o.op
    | none => false
  | none => false
def okB (ops : Array Oper) (j i : Nat) : Bool := !(Nat.beq j i) && (!(B ops j i) && (B ops i j || commAt ops j i))
def pick (ops : Array Oper) (r : List Nat) : List Oper := r.filterMap fun i => ops[i]?
theorem pick_app (r s : List Nat) : pick ops (r ++ s) = pick ops r ++ pick ops s := List.filterMap_append
theorem pick_cons {i : Nat} {o : Oper} (h : ops[i]? = some o) (s : List Nat) : pick ops (i :: s) = o :: pick ops s := List.filterMap_cons_some h
def plainAt (ops : Array Oper) (i : Nat) : Bool := match ops[i]? with
  | some o => o.guard.isNone && (match o.op with
    | .next .. => false
    | _ => true)
  | none => true
theorem plain_spec {q : Nat} (h : (List.range q).all (plainAt ops) = true) {i : Nat} {o : Oper} (hi : i < q) (ho : ops[i]? = some o) : o.guard = none ∧ ∀ a m, evAny o.op a m = none := by
  have := List.all_eq_true.1 h i (List.mem_range.2 hi)
  unfold plainAt at this
  rw [ho] at this
  simp only [Bool.and_eq_true, Option.isNone_iff_eq_none] at this
  refine ⟨this.1, fun a m => ?_⟩
  have h2 := this.2
  unfold evAny
  split
  · rename_i e; rw [e] at h2; cases h2
  · rfl
theorem swap_of {q : Nat} (hap : apartAll ops (befM ops.toList) q = true) (hpl : (List.range q).all (plainAt ops) = true) {i j : Nat} {o p : Oper} (hi : i < q) (hj : j < q) (ho : ops[i]? = some o) (hp : ops[j]? = some p) (hok : okB ops j i = true) (hb : B ops i j = false) : Swap ops p o := by
  unfold okB commAt at hok
  rw [hb, hp, ho] at hok
  simp only [Bool.and_eq_true, Bool.not_eq_true', Bool.false_or] at hok
  obtain ⟨hne, hb2, hcm⟩ := hok
  have hne : j ≠ i := Nat.ne_of_beq_eq_false hne
  have g1 := (plain_spec hpl hj hp).1
  have g2 := (plain_spec hpl hi ho).1
  rcases Nat.lt_or_ge j i with h | h
  · have a := Oper.apart_spec (apartAll_spec hap h hi hp ho hb)
    exact ⟨g1, g2, a.1, a.2.1, a.2.2, hcm⟩
  · have a := Oper.apart_spec (apartAll_spec hap (show i < j by omega) hj ho hp hb2)
    exact ⟨g1, g2, a.2.2, fun t h1 h2 => a.2.1 t h2 h1, a.1, hcm⟩
section
variable {q : Nat} (hq : drawOK ops q = true) (hqs : q ≤ ops.size) (hpl : (List.range q).all (plainAt ops) = true) {Q : Exit → List Value → Mem → Prop} {ι₀ : Nat → Loc} {m₀ : Mem} {w₀ : World}
include hq hqs hpl
theorem next_run {fuel : Nat} {listed : Array Bool} {i : Nat} {oi : Oper} (hsz : listed.size = ops.size) (hfuel : leftN (getL listed) ops.size ≤ fuel + 1) (hdown : Down ops (getL listed)) (hhi : ∀ j, q ≤ j → getL listed j = false) (hiq : i < q) (hiu : getL listed i = false) (hoi : ops[i]? = some oi)
    (hallE : ∀ e ∈ oi.after, Region.binds .any e = true → getL listed e.on = true) {F : List Value} {W : Mem} {R : Value → Mem → Prop} (hR : OpSim P oi F W R) {κ : Nat → Loc} {act : Act} {w : World} (ha : ARel W.Has κ F act) (hr : Rel κ W w) (hs : Step ι₀ m₀ w₀ κ W w)
    (next : ∀ (listed' : Array Bool), listed'.size = ops.size → leftN (getL listed') ops.size ≤ fuel → Down ops (getL listed') → (∀ j, q ≤ j → getL listed' j = false) → (∀ j, getL listed' j = (getL listed j || j == i)) → ∀ (v : Value) (W' : Mem) (κ' : Nat → Loc) (act' : Act) (w' : World), R v W' →
      ARel W'.Has κ' (aPut F oi.dst v) act' → Rel κ' W' w' → Step ι₀ m₀ w₀ κ' W' w' → wpAny P .any ops (Post ι₀ m₀ w₀ Q) fuel listed' act' w') :
    wpOp P ops (Post ι₀ m₀ w₀ Q) i (fun act w => wpAny P .any ops (Post ι₀ m₀ w₀ Q) fuel (listed.setIfInBounds i true) act w) act w := by
  have hilt : i < ops.size := by omega
  have hgl := getL_set (listed := listed) (i := i) (by omega)
  unfold wpOp
  simp only [hoi]
  rw [wanted_free (plain_spec hpl hiq hoi).1]
  left
  refine hR F κ act act w _ _ (fun _ _ => rfl) ha hr rfl ?_
  intro v W' v' w' κ' hRv hv hr' hs'
  refine next _ (by simp [hsz]) ?_ ?_ (fun k hk => ?_) (fun k => by rw [hgl]) v W' κ' _ w' hRv ((ha.mono hs'.grows hs'.at_).put' oi.dst hv) hr' (hs.trans hs')
  · have := leftN_add hiu ops.size hilt
    rw [hgl]
    omega
  · rw [hgl]
    intro k ok hk hSk e he hb
    simp only [Bool.or_eq_true, beq_iff_eq] at hSk ⊢
    rcases hSk with hSk | rfl
    · exact .inl (hdown k ok hk hSk e he hb)
    · rw [hoi] at hk; cases hk
      exact .inl (hallE e he hb)
  · rw [hgl]
    have : (k == i) = false := by simp; omega
    simp [hhi k hk, this]
theorem any_run : ∀ (fuel : Nat) (listed : Array Bool) (_ : listed.size = ops.size) (_ : leftN (getL listed) ops.size ≤ fuel) (_ : Down ops (getL listed)) (_ : ∀ j, q ≤ j → getL listed j = false)
    (r : List Nat) (_ : r.Pairwise fun j i => okB ops j i = true) (_ : ∀ j, j ∈ r ↔ j < q ∧ getL listed j = false) (F : List Value) (W : Mem) (_ : aOps P ops.toList (Q .normal) (pick ops r ++ ops.toList.drop q) F W)
    (κ : Nat → Loc) (act : Act) (w : World), ARel W.Has κ F act → Rel κ W w → Step ι₀ m₀ w₀ κ W w → wpAny P .any ops (Post ι₀ m₀ w₀ Q) fuel listed act w := by
  have hq0 := hq
  simp only [drawOK, Bool.and_eq_true] at hq
  obtain ⟨⟨⟨hsel, hback⟩, hap⟩, hwait⟩ := hq
  intro fuel
  induction fuel with
  | zero =>
    intro listed hsz hfuel hdown hhi r hr1 hr2 F W h κ act w ha hr hs
    have hnil : r = [] := List.eq_nil_iff_forall_not_mem.2 fun j hj => by
      obtain ⟨h1, h2⟩ := (hr2 j).1 hj
      rw [left_none hfuel j (by omega)] at h2; cases h2
    subst hnil
    refine tail_run hq0 _ q (Nat.le_refl _) rfl 0 listed hsz (fun j hj => ?_) hfuel _ _ h κ act w hs ha hr
    rcases Nat.lt_or_ge j q with h | h
    · rw [left_none hfuel j hj]; simp [h]
    · rw [hhi j h]; simp; omega
  | succ fuel ih =>
    intro listed hsz hfuel hdown hhi r hr1 hr2 F W h κ act w ha hr hs
    cases hre : r with
    | nil =>
      subst hre
      refine tail_run hq0 _ q (Nat.le_refl _) rfl (fuel + 1) listed hsz (fun j hj => ?_) hfuel _ _ h κ act w hs ha hr
      rcases Nat.lt_or_ge j q with h | h
      · have : getL listed j = true := by
          cases hg : getL listed j
          · have := (hr2 j).2 ⟨h, hg⟩
            cases this
          · rfl
        rw [this]; simp [h]
      · rw [hhi j h]; simp; omega
    | cons j0 r0 =>
      obtain ⟨hj, hjf⟩ := (hr2 j0).1 (by rw [hre]; exact List.mem_cons_self)
      refine ⟨fun hn => absurd hn (ready_some hsz hback ⟨j0, by omega, hjf⟩), fun i hi => ?_⟩
      obtain ⟨hilt, hiu, oi, hoi, hallE⟩ := (ready_get hsz).1 hi
      have hsub : ∀ k, B ops i k = true → getL listed k = true := fun k hk => hdown.bef i oi hoi hallE k hk
      have hiq : i < q := by
        rcases Nat.lt_or_ge i q with h | h
        · exact h
        · exfalso
          have := hsub j0 (waitAll_spec hwait hilt h (by omega))
          rw [hjf] at this; cases this
      obtain ⟨r1, r2, hr⟩ := List.append_of_mem ((hr2 i).2 ⟨hiq, hiu⟩)
      rw [hr] at h hr1
      rw [pick_app, pick_cons hoi, List.append_assoc, List.cons_append] at h
      rw [List.pairwise_append] at hr1
      obtain ⟨p1, p2, p3⟩ := hr1
      rw [List.pairwise_cons] at p2
      have hmem : ∀ j, j ∈ r1 → j < q ∧ getL listed j = false := fun j hj => (hr2 j).1 (by rw [hr]; exact List.mem_append_left _ hj)
      have hpl2 := plain_spec hpl hiq hoi
      obtain ⟨R, hR, hcont⟩ := pull (P := P) (ops := ops) hpl2.1 hpl2.2 (pick ops r1) (fun p hp => by
        unfold pick at hp
        rw [List.mem_filterMap] at hp
        obtain ⟨j, hj, hjp⟩ := hp
        obtain ⟨h1, h2⟩ := hmem j hj
        refine swap_of hap hpl hiq h1 hoi hjp (p3 j hj i List.mem_cons_self) ?_
        cases hb : B ops i j
        · rfl
        · rw [hsub j hb] at h2; cases h2) F W h
      have hni : ∀ j, j ∈ r1 ++ r2 → j ≠ i := fun j hj e => by
        subst e
        have beq : okB ops j j = false := by unfold okB; rw [Nat.beq_refl]; rfl
        rcases List.mem_append.1 hj with h | h
        · have := p3 j h j List.mem_cons_self
          rw [beq] at this; cases this
        · have := p2.1 j h
          rw [beq] at this; cases this
      refine next_run hq0 hqs hpl hsz hfuel hdown hhi hiq hiu hoi hallE hR ha (by assumption) hs fun listed' g1 g2 g3 g4 g5 v W' κ' act' w' hv ha' hr' hs' => ?_
      refine ih listed' g1 g2 g3 g4 (r1 ++ r2) ?_ (fun j => ?_) _ W' (by rw [pick_app, List.append_assoc]; exact hcont v W' hv) κ' act' w' ha' hr' hs'
      · rw [List.pairwise_append]
        exact ⟨p1, p2.2, fun a h1 b h2 => p3 a h1 b (List.mem_cons_of_mem _ h2)⟩
      · rw [g5]
        constructor
        · intro hj
          have hne := hni j hj
          obtain ⟨h1, h2⟩ := (hr2 j).1 (by
            rw [hr]
            rcases List.mem_append.1 hj with h | h
            · exact List.mem_append_left _ h
            · exact List.mem_append_right _ (List.mem_cons_of_mem _ h))
          have : (j == i) = false := by simp [hne]
          rw [h2, this]
          exact ⟨h1, rfl⟩
        · rintro ⟨h1, h2⟩
          simp only [Bool.or_eq_false_iff] at h2
          have hj := (hr2 j).2 ⟨h1, h2.1⟩
          rw [hr] at hj
          have hne : j ≠ i := fun e => by rw [e] at h2; simp at h2
          rcases List.mem_append.1 hj with h | h
          · exact List.mem_append_left _ h
          · rcases List.mem_cons.1 h with h | h
            · exact absurd h hne
            · exact List.mem_append_right _ h
end
def pairsB (ops : Array Oper) : List Nat → Bool
  | [] => true
  | j :: r => r.all (okB ops j) && pairsB ops r
theorem pairs_spec : ∀ {r : List Nat}, pairsB ops r = true → r.Pairwise fun j i => okB ops j i = true
  | [], _ => .nil
  | j :: r, h => by
    simp only [pairsB, Bool.and_eq_true] at h
    exact .cons (fun i hi => List.all_eq_true.1 h.1 i hi) (pairs_spec h.2)
def permB (q : Nat) (r : List Nat) : Bool := (List.range q).all (fun j => r.contains j) && r.all fun j => Nat.ble (j + 1) q
theorem perm_spec {q : Nat} {r : List Nat} (h : permB q r = true) (j : Nat) : j ∈ r ↔ j < q := by
  simp only [permB, Bool.and_eq_true] at h
  constructor
  · intro hj
    exact Nat.le_of_ble_eq_true (List.all_eq_true.1 h.2 j hj)
  · intro hj
    simpa using List.all_eq_true.1 h.1 j (List.mem_range.2 hj)
def anyOK (ops : Array Oper) (r : List Nat) (q : Nat) : Bool := drawOK ops q && (Nat.ble q ops.size && ((List.range q).all (plainAt ops) && (permB q r && pairsB ops r)))
theorem start_any {a₀ : List Value} {m : Mem} {Q : Exit → List Value → Mem → Prop} {id : Nat} (hmix : P.follows .mixedOrders = true)
    (h : ∀ (ι₀ : Nat → Loc) (m₀ : Mem) (w₀ : World) (κ : Nat → Loc) (act : Act) (w : World), ARel m.Has κ a₀ act → Rel κ m w → Step ι₀ m₀ w₀ κ m w → wpAny P .any ops (Post ι₀ m₀ w₀ Q) ops.size (Array.replicate ops.size false) act w) : AW P (.region id ops true) Q a₀ m := by
  intro ι₀ m₀ w₀ ι act w hs ha hr
  refine wp_region_any hmix ?_
  have hr' : Rel ι m { w with drawn := w.drawn + 1 } := ⟨hr.at', hr.oth, hr.inj, ⟨hr.glob.known.keep fun _ _ => rfl, hr.glob.own⟩⟩
  have hs' : Step ι₀ m₀ w₀ ι m { w with drawn := w.drawn + 1 } := ⟨hs.os, hs.tape, hs.output, hs.size, hs.grows, hs.at_, hs.block, hs.own⟩
  exact h ι₀ m₀ w₀ ι act _ ha hr' hs'
theorem getL_none (n : Nat) : getL (Array.replicate n false) = fun _ => false := by
  funext k
  unfold getL
  rw [Array.getD_eq_getD_getElem?, Array.getElem?_replicate]
  split <;> rfl
theorem AW_any {a₀ : List Value} {m : Mem} {Q : Exit → List Value → Mem → Prop} {id : Nat} (hmix : P.follows .mixedOrders = true) (r : List Nat) (q : Nat) (hok : anyOK ops r q = true) (h : aOps P ops.toList (Q .normal) (pick ops r ++ ops.toList.drop q) a₀ m) : AW P (.region id ops true) Q a₀ m := by
  simp only [anyOK, Bool.and_eq_true] at hok
  obtain ⟨hq, hqs, hpl, hpm, hpr⟩ := hok
  refine start_any hmix fun ι₀ m₀ w₀ κ act w ha hr hs => ?_
  have hgl := getL_none ops.size
  exact any_run hq (Nat.le_of_ble_eq_true hqs) hpl ops.size _ (by simp) (by rw [hgl, leftN_none]; exact Nat.le_refl _) (by rw [hgl]; intro k o _ h; cases h) (fun j _ => by rw [hgl]) r (pairs_spec hpr) (fun j => by rw [hgl, perm_spec hpm]; simp) a₀ m h κ act w ha hr hs
end
end
end Go.Proofs.YtkifimkcmfglmaaGreatDoor.Abs
namespace Go.Proofs.YtkifimkcmfglmaaGreatDoor.Abs
open Go Go.RowKit
section
variable [Defs]
def nthO : List Oper → Nat → List Oper → List Oper
  | [], _, r => r
  | o :: _, 0, r => o :: r
  | _ :: l, i + 1, r => nthO l i r
def pickL (l : List Oper) : List Nat → List Oper → List Oper
  | [], r => r
  | i :: s, r => nthO l i (pickL l s r)
theorem nthO_eq : ∀ (l : List Oper) (i : Nat) (r : List Oper), nthO l i r = (l[i]?).toList ++ r
  | [], _, _ => rfl
  | _ :: _, 0, _ => rfl
  | _ :: l, i + 1, r => by rw [nthO, nthO_eq l i r, List.getElem?_cons_succ]
theorem pickL_eq (ops : Array Oper) : ∀ (s : List Nat) (r : List Oper), pickL ops.toList s r = pick ops s ++ r
  | [], r => rfl
  | i :: s, r => by
    rw [pickL, nthO_eq, pickL_eq ops s r, Array.getElem?_toList]
    unfold pick
    cases h : ops[i]? with
    | none => rw [List.filterMap_cons_none h]; rfl
    | some o => rw [List.filterMap_cons_some h]; rfl
theorem pick_range (ops : Array Oper) : pick ops (List.range ops.size) = ops.toList := by
  have key : ∀ n, n ≤ ops.size → pick ops (List.range n) = ops.toList.take n := by
    intro n
    induction n with
    | zero => intro _; rfl
    | succ n ih =>
      intro h
      rw [List.range_succ, pick_app, ih (by omega), List.take_add_one]
      congr 1
      have : ops[n]? = some ops[n] := Array.getElem?_eq_getElem (by omega)
      rw [pick_cons this, Array.getElem?_toList, this]
      rfl
  have := key ops.size (Nat.le_refl _)
  rw [this, List.take_of_length_le (by simp)]
theorem SW_any {P : Program} {n : Nat} {Q : Exit → AL → Mem → Prop} {f : AL} {m : Mem} {id : Nat} {ops : Array Oper} (hmix : P.follows .mixedOrders = true) (r : List Nat) (q : Nat) (hok : anyOK ops r q = true)
    (h : sOps P n ops.toList (Q .normal) (pickL ops.toList r (ops.toList.drop q)) f m) : SW P n (.region id ops true) Q f m := by
  intro a ha
  rw [pickL_eq] at h
  exact AW_any hmix r q hok (sOps_run (fun f m a h1 h2 => ⟨f, h1, h2⟩) _ f _ _ ha h)
end
section
variable {P : Program} {n k : Nat} {f : AL} {m : Mem} {Q : Exit → AL → Mem → Prop}
theorem CW_all {id : Nat} {ops : Array Oper} (hmix : P.follows .mixedOrders = true) (hok : anyOK ops (List.range ops.size) ops.size = true) (h : @sOpsB P n ops.toList ⟨Q .normal⟩ ops.toList f m) : @CW P n k ⟨.region id ops true⟩ ⟨Q⟩ f m :=
  .of_SW (SW_any hmix _ _ hok (by rw [pickL_eq, pick_range, List.drop_eq_nil_of_le (by simp), List.append_nil]; exact h))
end
end Go.Proofs.YtkifimkcmfglmaaGreatDoor.Abs
namespace Go.Proofs.YtkifimkcmfglmaaGreatDoor
open Go.RowKit Abs
section
variable {P : Program} {t tx e : TypeId} {i : TypeInfo} {z : Value} {N : Nat}
theorem gapp (hu : P.underlying t = some (.slice e)) (hi : P.info? e = some i) (hz : i.zero = some z) (hs : i.size = N) (hzc : z.cells.toList.length = N) (m : Mem) {x : Value} {k n g : Nat} {cs news : List Value}
    (hsrc : aSrc P m tx N x = some (k, news)) (hk : k ≠ 0) (hg : m.get g = some (.cells false N cs)) (hn : cs.length = n * N) (hb : (n + k) * i.bytes ≤ 140737488355328) (hb2 : n + k ≤ 140737488355328) :
    aAppend P m t tx (.slice (some ⟨g, 0, none⟩) n n) x = some (.slice (some ⟨m.size, 0, none⟩) (n + k) (n + k), (m.set g none).push (.cells false N (cs ++ news))) := by
  unfold aAppend
  simp only [hu, hi, hz, hs, hzc, if_true, hsrc, if_neg hk, hg]
  rw [if_neg (by omega), if_pos ⟨by omega, trivial, hb, hb2⟩, List.drop_zero, ← hn, List.take_length]
theorem gapp_nil (hu : P.underlying t = some (.slice e)) (hi : P.info? e = some i) (hz : i.zero = some z) (hs : i.size = N) (hzc : z.cells.toList.length = N) (m : Mem) {x : Value} {k : Nat} {news : List Value}
    (hsrc : aSrc P m tx N x = some (k, news)) (hk : k ≠ 0) (hb : k * i.bytes ≤ 140737488355328) (hb2 : k ≤ 140737488355328) :
    aAppend P m t tx (.slice none 0 0) x = some (.slice (some ⟨m.size, 0, none⟩) k k, m.push (.cells false N news)) := by
  unfold aAppend
  simp only [hu, hi, hz, hs, hzc, if_true, hsrc, if_neg hk]
  rw [if_pos ⟨hb, hb2⟩]
end
end Go.Proofs.YtkifimkcmfglmaaGreatDoor
namespace Go.Proofs.YtkifimkcmfglmaaGreatDoor
open Go.RowKit Abs
def blkOf : Value → Option Nat
  | .slice (some a) _ _ => some a.block
  | _ => none
section
variable {α : Type} (enc : α → List Value) (N : Nat)
def OwnL (k : Nat) (M : Mem) (V : Value) (L : List α) : Prop := (L = [] ∧ V = .slice none 0 0) ∨ (L ≠ [] ∧ ∃ g, k ≤ g ∧ V = .slice (some ⟨g, 0, none⟩) L.length L.length ∧ M.get g = some (.cells false N (L.flatMap enc)))
variable {enc N}
theorem OwnL.nil (k : Nat) (M : Mem) : OwnL enc N k M (.slice none 0 0) [] := .inl ⟨rfl, rfl⟩
theorem OwnL.len {k : Nat} {M : Mem} {V : Value} {L : List α} (h : OwnL enc N k M V L) : ∃ a c, V = .slice a L.length c := by
  rcases h with ⟨rfl, rfl⟩ | ⟨_, g, _, rfl, _⟩
  · exact ⟨none, 0, rfl⟩
  · exact ⟨_, _, rfl⟩
theorem OwnL.same {k : Nat} {M M' : Mem} {V : Value} {L : List α} (h : OwnL enc N k M V L) (hs : ∀ b x, blkOf V = some b → M.get b = some x → M'.get b = some x) : OwnL enc N k M' V L := by
  rcases h with h | ⟨h0, g, hk, rfl, hg⟩
  · exact .inl h
  · exact .inr ⟨h0, g, hk, rfl, hs g _ rfl hg⟩
theorem OwnL.live {k : Nat} {M : Mem} {V : Value} {L : List α} (h : OwnL enc N k M V L) {b : Nat} (hb : blkOf V = some b) : k ≤ b ∧ b < M.size := by
  rcases h with ⟨_, rfl⟩ | ⟨h0, g, hk, rfl, hg⟩
  · cases hb
  · cases hb; exact ⟨hk, Mem.get_lt hg⟩
theorem flat_length (henc : ∀ a, (enc a).length = N) (L : List α) : (L.flatMap enc).length = L.length * N := by
  induction L with
  | nil => simp
  | cons a L ih => rw [List.flatMap_cons, List.length_append, henc, ih, List.length_cons, Nat.succ_mul]; omega
variable {P : Program} {t tx e d : TypeId} {i : TypeInfo} {z : Value}
theorem oapp (hu : P.underlying t = some (.slice e)) (hi : P.info? e = some i) (hz : i.zero = some z) (hs : i.size = N) (hzc : z.cells.toList.length = N) (hx : P.underlying tx = some (.slice d)) (henc : ∀ a, (enc a).length = N) (hby : i.bytes ≤ 1000)
    {k : Nat} {M : Mem} {V : Value} {L : List α} (h : OwnL enc N k M V L) (hk : k ≤ M.size) (hl : L.length ≤ 1000000) (x : α) (sn : Nat) :
    ∃ M' V', aAppend P (M.push (.cells false sn (enc x))) t tx V (.slice (some ⟨M.size, 0, none⟩) 1 1) = some (V', M') ∧ blkOf V' = some (M.size + 1) ∧ OwnL enc N k M' V' (L ++ [x]) ∧
      M'.size = M.size + 2 ∧ (∀ b y, blkOf V ≠ some b → M.get b = some y → M'.get b = some y) := by
  have hsrc := src_block (P := P) (m := M.push (.cells false sn (enc x))) (c := 1) (k := 1) (N := N) (news := enc x) (ro := false) (s := sn) hx (Mem.get_push_new M _) (by rw [henc]; omega)
  rcases h with ⟨rfl, rfl⟩ | ⟨h0, g, hgk, rfl, hg⟩
  · have ha := gapp_nil (P := P) (N := N) (k := 1) (news := enc x) hu hi hz hs hzc (M.push (.cells false sn (enc x))) hsrc (by decide) (by omega) (by decide)
    rw [Mem.size_push] at ha
    refine ⟨_, _, ha, rfl, .inr ⟨by simp, M.size + 1, by omega, rfl, ?_⟩, by simp only [Mem.size_push], fun b y _ hy => ?_⟩
    · have := Mem.get_push_new (M.push (.cells false sn (enc x))) (.cells false N (enc x))
      rw [Mem.size_push] at this
      rw [this]
      simp
    · have := Mem.get_lt hy
      rw [Mem.get_push_old (by rw [Mem.size_push]; omega), Mem.get_push_old this]; exact hy
  · have hgl := Mem.get_lt hg
    have ha := gapp (P := P) (N := N) (k := 1) (n := L.length) (cs := L.flatMap enc) (news := enc x) hu hi hz hs hzc (M.push (.cells false sn (enc x))) hsrc (by decide)
      (by rw [Mem.get_push_old hgl]; exact hg) (flat_length henc L) (by have := Nat.mul_le_mul (show L.length + 1 ≤ 1000001 by omega) hby; omega) (by omega)
    rw [Mem.size_push] at ha
    refine ⟨_, _, ha, rfl, .inr ⟨by simp, M.size + 1, by omega, by simp, ?_⟩, by simp only [Mem.size_push, Mem.size_set], fun b y hb hy => ?_⟩
    · have := Mem.get_push_new ((M.push (.cells false sn (enc x))).set g none) (.cells false N (L.flatMap enc ++ enc x))
      rw [Mem.size_set, Mem.size_push] at this
      rw [this, List.flatMap_append]; simp
    · have := Mem.get_lt hy
      rw [Mem.get_push_old (by rw [Mem.size_set, Mem.size_push]; omega), Mem.get_set_ne (by intro e; apply hb; rw [e]; rfl), Mem.get_push_old this]; exact hy
end
theorem flat_one {α : Type} (f : α → Value) (L : List α) : (L.flatMap fun a => [f a]) = L.map f := by
  induction L with
  | nil => rfl
  | cons a L ih => rw [List.flatMap_cons, ih]; rfl
end Go.Proofs.YtkifimkcmfglmaaGreatDoor
namespace Go.Proofs.YtkifimkcmfglmaaGreatDoor
open Go.RowKit Abs
theorem Str_zero : Tryz.t9.zero = some (.string ⟨#[]⟩) := rfl
theorem Str_bytes : Tryz.t9.bytes ≤ 1000 := by decide
end Go.Proofs.YtkifimkcmfglmaaGreatDoor
namespace Go.Proofs.YtkifimkcmfglmaaGreatDoor
open Go.RowKit Abs
theorem rnum_at (s : List UInt8) (k : Nat) (h1 : 1 ≤ k) (h2 : k ≤ 6) (hs : k ≤ s.length) (M : Mem) :
    Abs.Spec Tryz.prog 42 [.string (str s), .int .i64 (k : Nat)] M fun u M' => u = .tuple #[.int .i64 (Sha.num (s.take k) : Nat), .string (str (s.drop k)), .int .i64 0] ∧ M' = M :=
  Abs.Spec.of_flat (by intro x hx; simp at hx; rcases hx with rfl | rfl <;> rfl) rfl fun w => by
    have := rtake_any (str s) k h1 h2 (by rw [str_size]; exact hs) w
    have e : (str s).extract k (str s).size = str (s.drop k) := by
      rw [Lib.extract_eq, str_size]
      show str ((s.drop k).take (s.length - k)) = _
      rw [List.take_of_length_le (by simp)]
    rw [e] at this
    exact this
theorem rmay_at (h : Header) (m : Mem) : Abs.Spec Tryz.prog 37 [.agg h.cells.toArray] m fun u M => u = .bool h.may ∧ M = m :=
  Abs.Spec.of_flat (by intro x hx; simp at hx; subst hx; rfl) rfl fun w => may_any h w
theorem rfields_at (h : Header) (hk : h.okP) (m : Mem) : Abs.Spec Tryz.prog 38 [.agg h.cells.toArray] m fun u M => u = .string h.fields ∧ M = m :=
  Abs.Spec.of_flat (by intro x hx; simp at hx; subst hx; rfl) rfl fun w => rfields_any h hk (by have := hk.2.2.1; omega) (by have := hk.2.2.2.1; omega) w
def headL (s : List UInt8) : Header := ⟨(Sha.num (cutL s 4 4) : Nat), str (cutL s 8 16), (Sha.num (cutL s 24 2) : Nat), (Sha.num (cutL s 26 4) : Nat), (Sha.num (cutL s 30 4) : Nat), str (cutL s 34 32), str (cutL s 66 32)⟩
theorem headL_eq (s : List UInt8) : headOf (str s) = headL s := by
  have ex : ∀ a b, ((str s).extract a b) = str (cutL s a (b - a)) := fun a b => by rw [Lib.extract_eq]; rfl
  have nm : ∀ a k, a + k ≤ 98 → numAt (str s) a k = Sha.num (cutL s a k) := fun a k hak => by
    unfold numAt
    rw [ex]
    show Sha.num ((cutL s a (98 - a)).take k) = _
    unfold cutL
    rw [List.take_take, show min k (98 - a) = k by omega]
  unfold headOf headL
  rw [nm 4 4 (by decide), nm 24 2 (by decide), nm 26 4 (by decide), nm 30 4 (by decide), ex 8 24, ex 34 66, ex 66 98]
theorem hdrT_cases (s : List UInt8) : hdrT (str s) = if s.length = 98 then (if s.take 4 = [83, 76, 71, 49] then (if (headL s).may = true then (headL s, 0) else (noHead, 2)) else (noHead, 2)) else (noHead, 2) := by
  have ex : (str s).extract 0 4 = str (s.take 4) := by rw [Lib.extract_eq]; rfl
  have em : (⟨#[83, 76, 71, 49]⟩ : ByteArray) = str [83, 76, 71, 49] := rfl
  have inj : (str (s.take 4) = str [83, 76, 71, 49]) ↔ s.take 4 = [83, 76, 71, 49] := ⟨fun h => congrArg (fun x : ByteArray => x.data.toList) h, fun h => by rw [h]⟩
  unfold hdrT
  rw [str_size, ex, em, headL_eq]
  by_cases h1 : s.length = 98
  · rw [if_pos h1]
    by_cases h2 : s.take 4 = [83, 76, 71, 49]
    · rw [if_pos h2]
      rcases (headL s).check_cases with h3 | ⟨h3, -⟩
      · rw [if_neg (fun h => h.2.2 h3), if_neg (by unfold Header.may; rw [h3]; decide)]
      · rw [if_pos ⟨h1, inj.2 h2, by rw [h3]; decide⟩, if_pos (by unfold Header.may; rw [h3]; rfl)]
    · rw [if_neg h2, if_neg (fun h => h2 (inj.1 h.2.1))]
  · rw [if_neg h1, if_neg (fun h => h1 h.1)]
set_option maxRecDepth 100000 in
set_option maxHeartbeats 16000000 in
theorem rhtake_spec (s : List UInt8) (hs : s.length ≤ 1000000) (M : Mem) : Abs.Spec Tryz.prog 20 [.string (str s)] M fun u M' => u = hdrTV (str s) ∧ More M M' := by
  have halH : nAlloc Tryz.prog 23 = some (.cells false (aStride Tryz.prog 23) noHead.cells) := al_Hdr
  generalize aStride Tryz.prog 23 = s1 at halH
  have hbd0 : aBuild Tryz.prog 23 [] = some (.agg noHead.cells.toArray) := by kernel_rfl
  have hbd : ∀ (a : Int) (b : ByteArray) (c d e : Int) (f g : ByteArray), aBuild Tryz.prog 23 [(0, .int .i64 a), (1, .string b), (2, .int .i64 c), (3, .int .i64 d), (4, .int .i64 e), (5, .string f), (6, .string g)] = some (.agg (Header.mk a b c d e f g).cells.toArray) := fun _ _ _ _ _ _ _ => by kernel_rfl
  have rowH : ∀ (s : Nat) (h : Header), rowIn 7 0 (some (.cells false s h.cells)) = some (.agg h.cells.toArray) := fun _ _ => rfl
  have aggH : ∀ h : Header, (Value.agg h.cells.toArray).cells.toList = h.cells := fun _ => rfl
  have putH : ∀ (M0 : Mem) (b : Nat) (h h' : Header), putIn 7 M0 b 0 h'.cells (some (.cells false s1 h.cells)) = some (M0.set b (some (.cells false s1 h'.cells))) := fun _ _ _ _ => rfl
  have hbs : ∀ l : List UInt8, bsize (str l) = l.length := fun _ => rfl
  obtain ⟨b2, hb2⟩ : ∃ b, b = M.size := ⟨_, rfl⟩
  obtain ⟨M1, hM1⟩ : ∃ M1, M1 = M.push (.cells false s1 noHead.cells) := ⟨_, rfl⟩
  have mo1 : More M M1 := by rw [hM1]; exact More.push _ _
  have g2 : M1.get b2 = some (.cells false s1 noHead.cells) := by rw [hM1, hb2, Mem.get_push_new]
  have z1 : M1.size = M.size + 1 := by rw [hM1, Mem.size_push]
  have fin : ∀ (M' : Mem) (h h' : Header), M'.get b2 = some (.cells false s1 h.cells) → More M M' → (M'.set b2 (some (.cells false s1 h'.cells))).get b2 = some (.cells false s1 h'.cells) ∧ More M (M'.set b2 (some (.cells false s1 h'.cells))) := fun M' h h' hg hm =>
    ⟨Mem.get_set_same hg _, fun b z hb => by
      have := Mem.get_lt hb
      rw [Mem.get_set_ne (by omega)]; exact hm.get b z hb, by rw [Mem.size_set]; exact hm.size⟩
  have hc := hdrT_cases s
  unfold hdrTV
  obtain ⟨T, hT⟩ : ∃ T, T = hdrT (str s) := ⟨_, rfl⟩
  rw [← hT] at hc ⊢
  refine Abs.Spec.walkM Tryz.func20 (by rfl) _ Tryz.results20 _ Tryz.ntmps20 (by simp) ?_
  intro _ _ _
  refine CW_seq (CW_region ?_)
  simp only [zZ, reduceIte, Nat.reduceLT, Int.reduceToNat, Int.reduceLE, Int.reduceEq, Int.reduceLT, Nat.reduceEqDiff, Nat.reduceAdd, zDk, halH]
  rw [← hM1, ← hb2]
  by_cases h1 : s.length = 98
  · rw [if_pos h1] at hc
    have q1 : (((s.length : Nat) : Int) != 98) = false := by rw [h1]; rfl
    have sl4 := fun get => slice_to get (str s) 4 (by rw [str_size]; omega)
    have sl4 : ∀ get, gSlice Tryz.prog get 9 (.string (str s)) none (some (.int .i64 4)) = some (.string (str (s.take 4))) := sl4
    by_cases h2 : s.take 4 = [83, 76, 71, 49]
    · rw [if_pos h2] at hc
      have q2 : (!beqB (str (s.take 4)) ⟨#[83, 76, 71, 49]⟩) = false := by rw [h2]; rfl
      have tl : ∀ a, a ≤ 98 → ∀ get, gSlice Tryz.prog get 9 (.string (str s)) (some (.int .i64 (a : Nat))) none = some (.string (str (s.drop a))) := fun a ha get => slice_tail get s a (by omega)
      have tl4 : ∀ get, gSlice Tryz.prog get 9 (.string (str s)) (some (.int .i64 4)) none = some (.string (str (s.drop 4))) := tl 4 (by decide)
      have to16 := fun get => slice_to get (str (s.drop 8)) 16 (by rw [str_size, List.length_drop]; omega)
      have to16 : ∀ get, gSlice Tryz.prog get 9 (.string (str (s.drop 8))) none (some (.int .i64 16)) = some (.string (str (cutL s 8 16))) := to16
      have fr16 := fun get => slice_tail get (s.drop 8) 16 (by rw [List.length_drop]; omega)
      have fr16 : ∀ get, gSlice Tryz.prog get 9 (.string (str (s.drop 8))) (some (.int .i64 16)) none = some (.string (str (s.drop 24))) := fun get => by have := fr16 get; rw [List.drop_drop] at this; exact this
      have to32 := fun get => slice_to get (str (s.drop 34)) 32 (by rw [str_size, List.length_drop]; omega)
      have to32 : ∀ get, gSlice Tryz.prog get 9 (.string (str (s.drop 34))) none (some (.int .i64 32)) = some (.string (str (cutL s 34 32))) := to32
      have fr32 := fun get => slice_tail get (s.drop 34) 32 (by rw [List.length_drop]; omega)
      have fr32 : ∀ get, gSlice Tryz.prog get 9 (.string (str (s.drop 34))) (some (.int .i64 32)) none = some (.string (str (cutL s 66 32))) := fun get => by
        have := fr32 get
        rw [List.drop_drop] at this
        have e : s.drop (34 + 32) = cutL s 66 32 := by unfold cutL; rw [List.take_of_length_le (by rw [List.length_drop]; omega)]
        rw [e] at this
        exact this
      have n1 := rnum_at (s.drop 4) 4 (by decide) (by decide) (by rw [List.length_drop]; omega) M1
      have n2 := rnum_at (s.drop 24) 2 (by decide) (by decide) (by rw [List.length_drop]; omega) M1
      have n3 := rnum_at (s.drop 26) 4 (by decide) (by decide) (by rw [List.length_drop]; omega) M1
      have n4 := rnum_at (s.drop 30) 4 (by decide) (by decide) (by rw [List.length_drop]; omega) M1
      rw [List.drop_drop] at n1 n2 n3 n4
      rw [show (s.drop 4).take 4 = cutL s 4 4 from rfl] at n1
      rw [show (s.drop 24).take 2 = cutL s 24 2 from rfl] at n2
      rw [show (s.drop 26).take 4 = cutL s 26 4 from rfl] at n3
      rw [show (s.drop 30).take 4 = cutL s 30 4 from rfl] at n4
      refine CW_seq (CW_seq (CW_region ?_))
      simp only [zZ, reduceIte, Nat.reduceLT, Int.reduceToNat, Int.reduceLE, Int.reduceEq, Int.reduceLT, Nat.reduceEqDiff, Nat.reduceAdd, zDk, hbs, q1, sl4, q2]
      refine CW_cond false (by rfl) (fun h => by cases h) (fun _ => CW_skip ?_)
      simp only [zZ, reduceIte, Nat.reduceLT, Int.reduceToNat, Int.reduceLE, Int.reduceEq, Int.reduceLT, Nat.reduceEqDiff, Nat.reduceAdd, zDk]
      refine CW_seq (CW_region ?_)
      simp only [zZ, reduceIte, Nat.reduceLT, Int.reduceToNat, Int.reduceLE, Int.reduceEq, Int.reduceLT, Nat.reduceEqDiff, Nat.reduceAdd, zDk, tl4]
      refine ⟨by kernel_rfl, _, n1, ?_⟩
      rintro _ M9 ⟨rfl, e9⟩; replace e9 := e9.symm; subst e9
      simp only [zZ, reduceIte, Nat.reduceLT, Int.reduceToNat, Int.reduceLE, Int.reduceEq, Int.reduceLT, Nat.reduceEqDiff, Nat.reduceAdd, zDk]
      refine CW_seq (CW_region ?_)
      simp only [zZ, reduceIte, Nat.reduceLT, Int.reduceToNat, Int.reduceLE, Int.reduceEq, Int.reduceLT, Nat.reduceEqDiff, Nat.reduceAdd, zDk, to16]
      refine CW_seq (CW_region ?_)
      simp only [zZ, reduceIte, Nat.reduceLT, Int.reduceToNat, Int.reduceLE, Int.reduceEq, Int.reduceLT, Nat.reduceEqDiff, Nat.reduceAdd, zDk, fr16]
      refine ⟨by kernel_rfl, _, n2, ?_⟩
      rintro _ M9 ⟨rfl, e9⟩; replace e9 := e9.symm; subst e9
      simp only [zZ, reduceIte, Nat.reduceLT, Int.reduceToNat, Int.reduceLE, Int.reduceEq, Int.reduceLT, Nat.reduceEqDiff, Nat.reduceAdd, zDk]
      refine CW_seq (CW_region ?_)
      simp only [zZ, reduceIte, Nat.reduceLT, Int.reduceToNat, Int.reduceLE, Int.reduceEq, Int.reduceLT, Nat.reduceEqDiff, Nat.reduceAdd, zDk]
      refine ⟨by kernel_rfl, _, n3, ?_⟩
      rintro _ M9 ⟨rfl, e9⟩; replace e9 := e9.symm; subst e9
      simp only [zZ, reduceIte, Nat.reduceLT, Int.reduceToNat, Int.reduceLE, Int.reduceEq, Int.reduceLT, Nat.reduceEqDiff, Nat.reduceAdd, zDk]
      refine CW_seq (CW_region ?_)
      simp only [zZ, reduceIte, Nat.reduceLT, Int.reduceToNat, Int.reduceLE, Int.reduceEq, Int.reduceLT, Nat.reduceEqDiff, Nat.reduceAdd, zDk]
      refine ⟨by kernel_rfl, _, n4, ?_⟩
      rintro _ M9 ⟨rfl, e9⟩; replace e9 := e9.symm; subst e9
      simp only [zZ, reduceIte, Nat.reduceLT, Int.reduceToNat, Int.reduceLE, Int.reduceEq, Int.reduceLT, Nat.reduceEqDiff, Nat.reduceAdd, zDk]
      obtain ⟨b17, hb17⟩ : ∃ b, b = M1.size := ⟨_, rfl⟩
      obtain ⟨M2, hM2⟩ : ∃ M2, M2 = (M1.push (.cells false s1 noHead.cells)).set M1.size (some (.cells false s1 (headL s).cells)) := ⟨_, rfl⟩
      have g17 : M2.get b17 = some (.cells false s1 (headL s).cells) := by rw [hM2, hb17]; exact Mem.get_set_same (Mem.get_push_new _ _) _
      have mo12 : More M1 M2 := ⟨fun b x hb => by have := Mem.get_lt hb; rw [hM2, Mem.get_set_ne (by omega), Mem.get_push_old this]; exact hb, by rw [hM2, Mem.size_set, Mem.size_push]; omega⟩
      have g22 := mo12.get _ _ g2
      have mo2 := mo1.trans mo12
      have hbd2 : aBuild Tryz.prog 23 [(0, .int .i64 (Sha.num (cutL s 4 4) : Nat)), (1, .string (str (cutL s 8 16))), (2, .int .i64 (Sha.num (cutL s 24 2) : Nat)), (3, .int .i64 (Sha.num (cutL s 26 4) : Nat)), (4, .int .i64 (Sha.num (cutL s 30 4) : Nat)), (5, .string (str (cutL s 34 32))), (6, .string (str (cutL s 66 32)))] = some (.agg (headL s).cells.toArray) := hbd _ _ _ _ _ _ _
      refine CW_seq (CW_all hmix (by kernel_rfl) ?_)
      simp only [zZ, reduceIte, Nat.reduceLT, Int.reduceToNat, Int.reduceLE, Int.reduceEq, Int.reduceLT, Nat.reduceEqDiff, Nat.reduceAdd, zDk, to32, fr32, hbd2, halH, Mem.get_push_new, aggH, putH]
      rw [← hM2, ← hb17]
      have hm := rmay_at (headL s) M2
      by_cases h3 : (headL s).may = true
      · rw [if_pos h3] at hc
        rw [h3] at hm
        obtain ⟨gs, ms⟩ := fin M2 noHead (headL s) g22 mo2
        refine CW_seq (CW_seq (CW_region ?_))
        simp only [zZ, reduceIte, Nat.reduceLT, Int.reduceToNat, Int.reduceLE, Int.reduceEq, Int.reduceLT, Nat.reduceEqDiff, Nat.reduceAdd, zDk, g17, rowH]
        refine ⟨by kernel_rfl, _, hm, ?_⟩
        rintro _ M9 ⟨rfl, e9⟩; replace e9 := e9.symm; subst e9
        simp only [zZ, reduceIte, Nat.reduceLT, Int.reduceToNat, Int.reduceLE, Int.reduceEq, Int.reduceLT, Nat.reduceEqDiff, Nat.reduceAdd, zDk]
        refine CW_cond false (by rfl) (fun h => by cases h) (fun _ => CW_skip ?_)
        simp only [zZ, reduceIte, Nat.reduceLT, Int.reduceToNat, Int.reduceLE, Int.reduceEq, Int.reduceLT, Nat.reduceEqDiff, Nat.reduceAdd, zDk]
        refine CW_seq (CW_region ?_)
        simp only [zZ, reduceIte, Nat.reduceLT, Int.reduceToNat, Int.reduceLE, Int.reduceEq, Int.reduceLT, Nat.reduceEqDiff, Nat.reduceAdd, zDk, g17, rowH, g22, aggH, putH]
        refine CW_ret ?_
        simp only [zZ, reduceIte, Nat.reduceLT, Int.reduceToNat, Int.reduceLE, Int.reduceEq, Int.reduceLT, Nat.reduceEqDiff, Nat.reduceAdd, zDk, mEnd, sAnswer, sAnswer.sRes, aLoad_g, gs, rowH]
        exact ⟨_, Thin.refl _, by rw [hc], ms⟩
      · have h3 : (headL s).may = false := by simpa using h3
        rw [if_neg (by rw [h3]; decide)] at hc
        rw [h3] at hm
        obtain ⟨gs, ms⟩ := fin M2 noHead noHead g22 mo2
        refine CW_seq (CW_seq (CW_region ?_))
        simp only [zZ, reduceIte, Nat.reduceLT, Int.reduceToNat, Int.reduceLE, Int.reduceEq, Int.reduceLT, Nat.reduceEqDiff, Nat.reduceAdd, zDk, g17, rowH]
        refine ⟨by kernel_rfl, _, hm, ?_⟩
        rintro _ M9 ⟨rfl, e9⟩; replace e9 := e9.symm; subst e9
        simp only [zZ, reduceIte, Nat.reduceLT, Int.reduceToNat, Int.reduceLE, Int.reduceEq, Int.reduceLT, Nat.reduceEqDiff, Nat.reduceAdd, zDk]
        refine CW_cond true (by rfl) (fun _ => CW_seq (CW_region ?_)) (fun h => by cases h)
        simp only [zZ, reduceIte, Nat.reduceLT, Int.reduceToNat, Int.reduceLE, Int.reduceEq, Int.reduceLT, Nat.reduceEqDiff, Nat.reduceAdd, zDk, hbd0, g22, aggH, putH]
        refine CW_ret ?_
        simp only [zZ, reduceIte, Nat.reduceLT, Int.reduceToNat, Int.reduceLE, Int.reduceEq, Int.reduceLT, Nat.reduceEqDiff, Nat.reduceAdd, zDk, mEnd, sAnswer, sAnswer.sRes, aLoad_g, gs, rowH]
        exact ⟨_, Thin.refl _, by rw [hc], ms⟩
    · rw [if_neg h2] at hc
      have q2 : (!beqB (str (s.take 4)) ⟨#[83, 76, 71, 49]⟩) = true := by
        rw [Bool.not_eq_true', beqB_dec, decide_eq_false]
        intro h
        exact h2 (congrArg (fun x : ByteArray => x.data.toList) h)
      obtain ⟨gs, ms⟩ := fin M1 noHead noHead g2 mo1
      refine CW_seq (CW_seq (CW_region ?_))
      simp only [zZ, reduceIte, Nat.reduceLT, Int.reduceToNat, Int.reduceLE, Int.reduceEq, Int.reduceLT, Nat.reduceEqDiff, Nat.reduceAdd, zDk, hbs, q1, sl4, q2]
      refine CW_cond true (by rfl) (fun _ => CW_seq (CW_region ?_)) (fun h => by cases h)
      simp only [zZ, reduceIte, Nat.reduceLT, Int.reduceToNat, Int.reduceLE, Int.reduceEq, Int.reduceLT, Nat.reduceEqDiff, Nat.reduceAdd, zDk, hbd0, g2, aggH, putH]
      refine CW_ret ?_
      simp only [zZ, reduceIte, Nat.reduceLT, Int.reduceToNat, Int.reduceLE, Int.reduceEq, Int.reduceLT, Nat.reduceEqDiff, Nat.reduceAdd, zDk, mEnd, sAnswer, sAnswer.sRes, aLoad_g, gs, rowH]
      exact ⟨_, Thin.refl _, by rw [hc], ms⟩
  · rw [if_neg h1] at hc
    have q1 : (((s.length : Nat) : Int) != 98) = true := by simp; omega
    obtain ⟨gs, ms⟩ := fin M1 noHead noHead g2 mo1
    refine CW_seq (CW_seq (CW_region ?_))
    simp only [zZ, reduceIte, Nat.reduceLT, Int.reduceToNat, Int.reduceLE, Int.reduceEq, Int.reduceLT, Nat.reduceEqDiff, Nat.reduceAdd, zDk, hbs, q1]
    refine CW_cond true (by rfl) (fun _ => CW_seq (CW_region ?_)) (fun h => by cases h)
    simp only [zZ, reduceIte, Nat.reduceLT, Int.reduceToNat, Int.reduceLE, Int.reduceEq, Int.reduceLT, Nat.reduceEqDiff, Nat.reduceAdd, zDk, hbd0, g2, aggH, putH]
    refine CW_ret ?_
    simp only [zZ, reduceIte, Nat.reduceLT, Int.reduceToNat, Int.reduceLE, Int.reduceEq, Int.reduceLT, Nat.reduceEqDiff, Nat.reduceAdd, zDk, mEnd, sAnswer, sAnswer.sRes, aLoad_g, gs, rowH]
    exact ⟨_, Thin.refl _, by rw [hc], ms⟩
end Go.Proofs.YtkifimkcmfglmaaGreatDoor
namespace Go.Proofs.YtkifimkcmfglmaaGreatDoor
open Go.RowKit Abs
theorem arch_rel {n : Nat → Prop} {ι : Nat → Abs.Loc} {h : Header} {v u : Value} (hr : VRel n ι (.agg (archC h v)) u) : ∃ v', u = .agg (archC h v') ∧ VRel n ι v v' := by
  obtain ⟨ys, rfl, hl, hx⟩ := hr.agg_inv
  have hsz : ys.size = 8 := by rw [← Array.length_toList, ← hl]; rfl
  have g : ∀ (i : Nat) (x : Value), (archC h v).toList[i]? = some x → flat 3 x = true → ys[i]? = some x := by
    intro i x hi hf
    have : i < ys.size := by rw [hsz]; exact (List.getElem?_eq_some_iff.1 hi).1
    have h2 := hx i x ys[i] hi (by simp [this])
    rw [Array.getElem?_eq_getElem this, ← flat_eq 3 x _ hf h2]
  obtain ⟨y7, hy7⟩ : ∃ y, ys[7]? = some y := ⟨_, Array.getElem?_eq_getElem (by omega)⟩
  refine ⟨y7, ?_, hx 7 v y7 rfl (by simpa using hy7)⟩
  congr 1
  have hs2 : (archC h y7).size = 8 := rfl
  refine ext_of_same (hsz.trans hs2.symm) fun i x y h1 h2 => ?_
  have hi : i < 8 := by rw [← hsz]; exact (Array.getElem?_eq_some_iff.1 h1).1
  have gg : ∀ (x' : Value), (archC h v).toList[i]? = some x' → flat 3 x' = true → (archC h y7)[i]? = some x' → x = y := fun x' k1 k2 k3 => by
    have := g i x' k1 k2
    rw [this] at h1
    rw [k3] at h2
    exact (Option.some.inj h1).symm.trans (Option.some.inj h2)
  match i, hi with
  | 0, _ => exact gg _ rfl rfl rfl
  | 1, _ => exact gg _ rfl rfl rfl
  | 2, _ => exact gg _ rfl rfl rfl
  | 3, _ => exact gg _ rfl rfl rfl
  | 4, _ => exact gg _ rfl rfl rfl
  | 5, _ => exact gg _ rfl rfl rfl
  | 6, _ => exact gg _ rfl rfl rfl
  | 7, _ =>
    rw [hy7] at h1
    exact (Option.some.inj h1).symm.trans (Option.some.inj h2)
theorem rsame_at (m : Mem) (h k : Header) (v1 v2 : Value) (xs ys : List ByteArray) (h1 : Rd m 1 v1 xs.length (xs.map .string)) (h2 : Rd m 1 v2 ys.length (ys.map .string)) (hsz : xs.length ≤ 140737488355327) :
    Abs.Spec Tryz.prog 10 [.agg (archC h v1), .agg (archC k v2)] m fun u m' => u = .bool (sameArch h k xs ys) ∧ m' = m :=
  Spec.of_below rfl fun ι w us hy hr => by
    obtain ⟨a, b, rfl, ha, hb⟩ := vrels_two hy
    obtain ⟨a, rfl, ha2⟩ := arch_rel ha
    obtain ⟨b, rfl, hb2⟩ := arch_rel hb
    exact rsamearch_any h k a b xs ys w (h1.strs hr ha2) (h2.strs hr hb2) hsz
theorem dec_true {p : Prop} (i : Decidable p) (h : p) : @decide p i = true := by
  cases i with
  | isTrue => rfl
  | isFalse k => exact absurd h k
theorem sameArch_self (h : Header) (xs : List ByteArray) : sameArch h h xs xs = true := dec_true _ ⟨rfl, rfl⟩
end Go.Proofs.YtkifimkcmfglmaaGreatDoor
