/-
  The abstract machine walked with unknowns: loops over some slots, memory that grows, facts of the program's types.
  Data that came in, read off the abstract memory; and slices there as the contracts of worlds want them.
  Walks over any memory with local blocks: what the steps come to.
  Walks in a memory that is written: no base that stays; what is known are blocks by number.
  DERIVED: THE SHELF's CONTRACTS AT THIS DUMP, IN PLAIN WORDS (tools/lay-plain.mjs out of 'TryzShelf.lean', which tools/lay-shelf.mjs wrote): THE SAME DECLARATIONS UNDER THE SAME NAMES: 'import', 'namespace', 'open', 'def', 'theorem' AND NOTHING ELSE: no command of the shelf's: FOR A HAND-IN. Each laying: the table of numbers ('.._ren') and one theorem, a field a fact of the dump's own or the kernel's comparison; each contract: ONE APPLICATION.
  The library's contracts (of worlds), for the abstract machine: how they are turned; Itoa.
  The library's contract for what stands ahead of a text, for the abstract machine.
  The library's contracts that disks ask for, for the abstract machine.
  The library's functions over texts, for the machine as a function.
  Appends to local blocks.
-/
import Derived.Test.YtkkleedpakcfgaaGreatDoorTids08
import Derived.Test.YtkkleedpakcfgaaGreatDoorTids01
import Derived.Test.YtkkleedpakcfgaaGreatDoorTids09
import Derived.Shelf.Strings.Builder1
import Derived.Shelf.Strings.Builder2
import Derived.Shelf.Strings.Trim
import Derived.Shelf.Small.Utf8
import Derived.Shelf.Small.Bits
import Derived.Shelf.Small.Strs
import Derived.Shelf.Small.Wraps
import Derived.Shelf.Strings.BuilderF
import Derived.Shelf.Strings.BuilderK
import Derived.Shelf.Strings.Builder2Cap
import Derived.Shelf.Strconv.Itoa0
import Derived.Shelf.Strings.Search1
import Derived.Shelf.Strings.Prefix
import Derived.Shelf.Unicode.Decode
import Derived.Shelf.Strings.Runes
import Derived.Shelf.Strings.AsciiSet
import Derived.Shelf.Bits.Mul64
import Derived.Shelf.Strings.Repeat
import Derived.Shelf.Unicode.DecodeSlow
import Derived.Shelf.Unicode.DecodeAny
import Derived.Shelf.Unicode.DecodeLast
import Derived.Shelf.Strings.BuilderCap
import Derived.Ground.Names2Prog
import Derived.Shelf.Slices.Clone
import Derived.Ground.SlgnProg
import Derived.Shelf.SlicesE.Clone
import Derived.Test.YtkkleedpakcfgaaGreatDoorProg
import Derived.Lib.Strings
import Derived.Lib.TrimByte
set_option linter.all false
namespace Go.Proofs.YtkkleedpakcfgaaGreatDoor.Abs
open Go Go.RowKit
def AL.keep (f : AL) : List Nat → AL
  | [] => []
  | t :: r => match AL.get f t with
    | some v => (t, v) :: AL.keep f r
    | none => AL.keep f r
theorem AL.keep_get (f : AL) : ∀ (l : List Nat) (t : Nat) (v : Value), AL.get (AL.keep f l) t = some v → AL.get f t = some v
  | [], t, v, h => by cases h
  | s :: r, t, v, h => by
    unfold AL.keep at h
    split at h
    · rename_i u hu
      simp only [AL.get] at h
      split at h
      · rename_i e; rw [← e, hu]; exact h
      · exact AL.keep_get f r t v h
    · exact AL.keep_get f r t v h
section
variable {P : Program} {n : Nat} {Q : Exit → AL → Mem → Prop} {f : AL} {m : Mem}
theorem SW_loopK {c : Code} (slots : List Nat) (I : Nat → AL → Mem → Prop) (k₀ : Nat) (h₀ : I k₀ (AL.keep f slots) m)
    (round : ∀ k f m, I k f m → SW P n c (sThen (fun f' m' => ∃ k', I k' (AL.keep f' slots) m' ∧ k' < k) Q) f m) : SW P n (.loop c) Q f m := by
  refine SW.less (f' := AL.keep f slots) ?_ (AL.keep_get f slots)
  refine SW_loop (fun k f m => ∃ f0, I k f0 m ∧ ∀ t v, AL.get f0 t = some v → AL.get f t = some v) k₀ ⟨_, h₀, fun _ _ h => h⟩ ?_
  rintro k f m ⟨f0, hI, hs⟩
  refine SW.less (SW.mono (round k f0 m hI) ?_) hs
  rintro e f' m' h
  cases e with
  | normal =>
    obtain ⟨k', h1, h2⟩ := h
    exact ⟨k', ⟨_, h1, AL.keep_get f' slots⟩, h2⟩
  | _ => exact h
theorem SW_mid {x y : Code} (slots : List Nat) (I : AL → Mem → Prop) (h1 : SW P n x (sThen (fun f m => I (AL.keep f slots) m) Q) f m) (h2 : ∀ f m, I f m → SW P n y Q f m) : SW P n (.seq x y) Q f m := by
  refine SW_seq (h1.mono ?_)
  rintro e f' m' h
  cases e with
  | normal => exact (h2 _ _ h).less (AL.keep_get f' slots)
  | _ => exact h
theorem SW_keep {c : Code} (slots : List Nat) (h : SW P n c Q (AL.keep f slots) m) : SW P n c Q f m := h.less (AL.keep_get f slots)
end
def Grows (m m' : Mem) : Prop := m.size ≤ m'.size ∧ ∀ b x, m.get b = some x → m'.get b = some x
theorem Grows.refl (m : Mem) : Grows m m := ⟨Nat.le_refl _, fun _ _ h => h⟩
theorem Grows.trans {m m' m'' : Mem} (h : Grows m m') (k : Grows m' m'') : Grows m m'' := ⟨Nat.le_trans h.1 k.1, fun b x hb => k.2 b x (h.2 b x hb)⟩
theorem Grows.push {m m' : Mem} (h : Grows m m') (x : Blk) : Grows m (m'.push x) :=
  ⟨by simp only [Mem.size_push]; have := h.1; omega, fun b y hb => by
    have h1 := h.2 b y hb
    rw [Mem.get_push_old (Mem.get_lt h1)]; exact h1⟩
theorem Grows.set {m m' : Mem} (h : Grows m m') {g : Nat} (hg : m.size ≤ g) (o : Option Blk) : Grows m (m'.set g o) :=
  ⟨by simp only [Mem.size_set]; exact h.1, fun b y hb => by
    have := Mem.get_lt hb
    rw [Mem.get_set_ne (by omega)]; exact h.2 b y hb⟩
theorem hmix : Tryz.prog.follows .mixedOrders = true := by kernel_rfl
theorem inf_int : Tryz.prog.info? 3 = some Tryz.t3 := by kernel_rfl
theorem inf_u8 : Tryz.prog.info? 5 = some Tryz.t5 := by kernel_rfl
theorem inf_str : Tryz.prog.info? 9 = some Tryz.t9 := by kernel_rfl
theorem int_size : Tryz.t3.size = 1 := rfl
theorem int_bytes : Tryz.t3.bytes = 8 := rfl
theorem int_zero : Tryz.t3.zero = some (.int .i64 0) := rfl
theorem u8_size : Tryz.t5.size = 1 := rfl
theorem u8_bytes : Tryz.t5.bytes = 1 := rfl
theorem u8_zero : Tryz.t5.zero = some (.int .u8 0) := rfl
theorem str_size : Tryz.t9.size = 1 := rfl
theorem row_int (k : IntKind) : (TypeDesc.int k).isRow = false := rfl
theorem row_slice (e : TypeId) : (TypeDesc.slice e).isRow = false := rfl
theorem cells_int (k : IntKind) (x : Int) : (Value.int k x).cells.toList = [.int k x] := rfl
theorem one_int (k : IntKind) (x : Int) : oneAll [Value.int k x] = true := rfl
theorem new_one {P : Program} {t e : TypeId} {i : TypeInfo} {z : Value} (hu : P.underlying t = some (.slice e)) (hi : P.info? e = some i) (hz : i.zero = some z) (hs : i.size = 1) (hf : flat 3 z = true) (hzc : z.cells.toList = [z]) (hz1 : oneAll [z] = true)
    (v : Value) (hv : v.cells.toList = [v]) (h1 : oneAll [v] = true) : nBuildSlice P t 1 [(0, v)] = some (.cells false 1 [v]) := by
  unfold nBuildSlice
  simp only [hu, hi, hz, hs, hf, hzc, hz1, hv, h1]
  simp [aFill, aZeros, hv, setL, h1]
theorem app_one {P : Program} {t e : TypeId} {i : TypeInfo} {z : Value} (hu : P.underlying t = some (.slice e)) (hi : P.info? e = some i) (hz : i.zero = some z) (hs : i.size = 1) (hzc : z.cells.toList.length = 1)
    (m : Mem) (v : Value) {g n : Nat} {xs : List Value} (hg : m.get g = some (.cells false 1 xs)) (hn : n = xs.length) (hb : (n + 1) * i.bytes ≤ 140737488355328) (hb2 : n + 1 ≤ 140737488355328) :
    aAppend P (m.push (.cells false 1 [v])) t t (.slice (some ⟨g, 0, none⟩) n n) (.slice (some ⟨m.size, 0, none⟩) 1 1) =
      some (.slice (some ⟨m.size + 1, 0, none⟩) (n + 1) (n + 1), ((m.push (.cells false 1 [v])).set g none).push (.cells false 1 (xs ++ [v]))) := by
  subst hn
  have h1 : (m.push (.cells false 1 [v])).get g = some (.cells false 1 xs) := by rw [Mem.get_push_old (Mem.get_lt hg)]; exact hg
  unfold aAppend aSrc
  simp only [hu, hi, hz, hs, hzc, if_true, Mem.get_push_new, h1]
  simp [hb, hb2]
theorem app_nil {P : Program} {t e : TypeId} {i : TypeInfo} {z : Value} (hu : P.underlying t = some (.slice e)) (hi : P.info? e = some i) (hz : i.zero = some z) (hs : i.size = 1) (hzc : z.cells.toList.length = 1)
    (m : Mem) (v : Value) (hb : i.bytes ≤ 140737488355328) :
    aAppend P (m.push (.cells false 1 [v])) t t (.slice none 0 0) (.slice (some ⟨m.size, 0, none⟩) 1 1) =
      some (.slice (some ⟨m.size + 1, 0, none⟩) 1 1, (m.push (.cells false 1 [v])).push (.cells false 1 [v])) := by
  unfold aAppend aSrc
  simp only [hu, hi, hz, hs, hzc, if_true, Mem.get_push_new]
  simp [hb]
def Sl (m : Mem) (v : Value) (xs : List Value) : Prop := (v = .slice none 0 0 ∧ xs = []) ∨ ∃ g, v = .slice (some ⟨g, 0, none⟩) xs.length xs.length ∧ m.get g = some (.cells false 1 xs)
theorem Sl.app {P : Program} {t e : TypeId} {i : TypeInfo} {z : Value} (hu : P.underlying t = some (.slice e)) (hi : P.info? e = some i) (hz : i.zero = some z) (hs : i.size = 1) (hzc : z.cells.toList.length = 1)
    {m₀ m : Mem} {s : Value} {xs : List Value} (h : Sl m s xs) (hgr : Grows m₀ m) (hnew : ∀ g l c, s = .slice (some ⟨g, 0, none⟩) l c → m₀.size ≤ g) (v : Value) (hb : (xs.length + 1) * i.bytes ≤ 140737488355328) (hb2 : xs.length + 1 ≤ 140737488355328) :
    ∃ s' m', aAppend P (m.push (.cells false 1 [v])) t t s (.slice (some ⟨m.size, 0, none⟩) 1 1) = some (s', m') ∧ Sl m' s' (xs ++ [v]) ∧ Grows m₀ m' ∧ (∀ g l c, s' = .slice (some ⟨g, 0, none⟩) l c → m₀.size ≤ g) := by
  rcases h with ⟨rfl, rfl⟩ | ⟨g, rfl, hg⟩
  · refine ⟨_, _, app_nil hu hi hz hs hzc m v (by simpa using hb), .inr ⟨m.size + 1, by simp, ?_⟩, (hgr.push _).push _, fun g l c e => ?_⟩
    · have := Mem.get_push_new (m.push (.cells false 1 [v])) (.cells false 1 [v])
      rw [Mem.size_push] at this
      simpa using this
    · cases e; have := hgr.1; omega
  · refine ⟨_, _, app_one hu hi hz hs hzc m v hg rfl hb hb2, .inr ⟨m.size + 1, by simp, ?_⟩, ((hgr.push _).set (hnew g _ _ rfl) _).push _, fun g l c e => ?_⟩
    · have := Mem.get_push_new ((m.push (.cells false 1 [v])).set g none) (.cells false 1 (xs ++ [v]))
      rw [Mem.size_set, Mem.size_push] at this
      exact this
    · cases e; have := hgr.1; omega
theorem Sl.appL {P : Program} {t e : TypeId} {i : TypeInfo} {z : Value} (hu : P.underlying t = some (.slice e)) (hi : P.info? e = some i) (hz : i.zero = some z) (hs : i.size = 1) (hzc : z.cells.toList.length = 1)
    {m₀ m : Mem} {s : Value} {xs ys : List Value} {g2 : Nat} {ro : Bool} (h : Sl m s xs) (hy : m.get g2 = some (.cells ro 1 ys)) (hy0 : 0 < ys.length) (hgr : Grows m₀ m) (hnew : ∀ g l c, s = .slice (some ⟨g, 0, none⟩) l c → m₀.size ≤ g) (hb : (xs.length + ys.length) * i.bytes ≤ 140737488355328) (hb2 : xs.length + ys.length ≤ 140737488355328) :
    ∃ s' m', aAppend P m t t s (.slice (some ⟨g2, 0, none⟩) ys.length ys.length) = some (s', m') ∧ Sl m' s' (xs ++ ys) ∧ Grows m₀ m' ∧ (∀ g l c, s' = .slice (some ⟨g, 0, none⟩) l c → m₀.size ≤ g) ∧
      (∀ g x, (∀ l c, s ≠ .slice (some ⟨g, 0, none⟩) l c) → m.get g = some x → m'.get g = some x) := by
  have hne : ¬ ys.length = 0 := by omega
  rcases h with ⟨rfl, rfl⟩ | ⟨g, rfl, hg⟩
  · refine ⟨.slice (some ⟨m.size, 0, none⟩) ys.length ys.length, m.push (.cells false 1 ys), ?_, .inr ⟨m.size, by simp, ?_⟩, hgr.push _, fun g l c e => ?_, fun g x _ hx => ?_⟩
    · unfold aAppend aSrc
      simp only [List.length_nil, Nat.zero_add] at hb hb2
      simp only [hu, hi, hz, hs, hzc, if_true, hy, if_neg hne]
      simp [hb, hb2, show ¬ ys = [] from fun e => by rw [e] at hy0; simp at hy0]
    · simpa using Mem.get_push_new m (.cells false 1 ys)
    · cases e; exact hgr.1
    · rw [Mem.get_push_old (Mem.get_lt hx)]; exact hx
  · refine ⟨.slice (some ⟨m.size, 0, none⟩) (xs.length + ys.length) (xs.length + ys.length), (m.set g none).push (.cells false 1 (xs ++ ys)), ?_, .inr ⟨m.size, by simp, ?_⟩, (hgr.set (hnew g _ _ rfl) _).push _, fun g l c e => ?_, fun g' x hg' hx => ?_⟩
    · unfold aAppend aSrc
      simp only [hu, hi, hz, hs, hzc, if_true, hy, hg, if_neg hne]
      simp [hb, hb2, hy0, show ¬ ys = [] from fun e => by rw [e] at hy0; simp at hy0]
    · have := Mem.get_push_new (m.set g none) (.cells false 1 (xs ++ ys))
      rw [Mem.size_set] at this
      exact this
    · cases e; exact hgr.1
    · have hne' : g ≠ g' := fun e => hg' _ _ (by rw [e])
      rw [Mem.get_push_old (by rw [Mem.size_set]; exact Mem.get_lt hx), Mem.get_set_ne hne']
      exact hx
theorem index_str (s : ByteArray) (i : Int) (k : Nat) (h : i = k) (hk : k < s.size) : aIndex Tryz.prog 9 (.string s) (.int .i64 i) = some (.int .u8 ((s.data.toList.getD k 0).toNat : Int)) := by
  subst h
  unfold aIndex
  have hk' : k < s.data.toList.length := by rw [Array.length_toList]; exact hk
  simp only [Tryz.underlying9, if_pos (show (0 : Int) ≤ (k : Int) by omega), Int.toNat_natCast, List.getD, List.getElem?_eq_getElem hk', Option.getD_some]
theorem new_bytes (s : ByteArray) (hs : bsize s ≤ 140737488355328) : nToBytes Tryz.prog 9 74 s = some (.cells false 1 (bytesV s.data.toList)) := by
  unfold nToBytes
  simp only [Tryz.underlying9, Tryz.underlying74, Tryz.underlying5, if_pos hs]
  rfl
theorem Sl.at {m : Mem} {v : Value} {xs : List Value} (h : Sl m v xs) (hn : 0 < xs.length) : ∃ g, v = .slice (some ⟨g, 0, none⟩) xs.length xs.length ∧ m.get g = some (.cells false 1 xs) := by
  rcases h with ⟨_, rfl⟩ | h
  · simp at hn
  · exact h
theorem Sl.block {m : Mem} {g n : Nat} {xs : List Value} (hn : n = xs.length) (h : m.get g = some (.cells false 1 xs)) : Sl m (.slice (some ⟨g, 0, none⟩) n n) xs := .inr ⟨g, by rw [hn], h⟩
theorem wrap_u8 (x : Int) : IntKind.u8.wrap x = x % 256 := by
  have e1 : IntKind.u8.signed = false := rfl
  have e2 : IntKind.u8.bits = 8 := rfl
  unfold IntKind.wrap
  simp only [e1, e2, Bool.false_and, Bool.false_eq_true, if_false]
  rfl
theorem cellBytes_bytesV : ∀ l : List UInt8, cellBytes (bytesV l) = some l
  | [] => rfl
  | b :: l => by
    have e : bytesV (b :: l) = Value.int .u8 (b.toNat : Int) :: bytesV l := rfl
    rw [e]
    simp only [cellBytes, cellBytes_bytesV l]
    simp
theorem to_str {get : Nat → Option Blk} {g n : Nat} {ro : Bool} {st : Nat} {l : List UInt8} (h : get g = some (.cells ro st (bytesV l))) (hn : n = l.length) : gToString Tryz.prog get 74 9 (.slice (some ⟨g, 0, none⟩) n n) = some (.string (str l)) := by
  subst hn
  have hl : (bytesV l).length = l.length := by simp [bytesV]
  unfold gToString
  simp only [Tryz.underlying9, Tryz.underlying74, Tryz.underlying5, h, List.drop_zero, Nat.zero_add, hl, Nat.le_refl, if_true]
  rw [List.take_of_length_le (by omega), cellBytes_bytesV]
  rfl
theorem slice_u8 {get : Nat → Option Blk} {b o len cap : Nat} {ro : Bool} {cs : List Value} (hb : get b = some (.cells ro 1 cs)) (l h : Int) (h1 : 0 ≤ l) (h2 : l ≤ h) (h3 : h ≤ cap) :
    gSlice Tryz.prog get 74 (.slice (some ⟨b, o, none⟩) len cap) (some (.int .i64 l)) (some (.int .i64 h)) = some (.slice (some ⟨b, o + l.toNat, none⟩) (h.toNat - l.toNat) (cap - l.toNat)) := by
  unfold gSlice aBound
  simp only [Tryz.underlying74, inf_u8, u8_size, hb, if_pos (And.intro (Int.le_trans h1 h2) h3), if_pos (And.intro h1 h2), if_true, Nat.mul_one]
theorem new_int8 (a b c d e f g h : Int) : nBuildSlice Tryz.prog 37 8 [(0, .int .i64 a), (1, .int .i64 b), (2, .int .i64 c), (3, .int .i64 d), (4, .int .i64 e), (5, .int .i64 f), (6, .int .i64 g), (7, .int .i64 h)] =
    some (.cells false 1 [.int .i64 a, .int .i64 b, .int .i64 c, .int .i64 d, .int .i64 e, .int .i64 f, .int .i64 g, .int .i64 h]) := by kernel_rfl
theorem store_int {m : Mem} {g : Nat} {cs : List Value} (hg : m.get g = some (.cells false 1 cs)) {i : Nat} (hi : i < cs.length) (x : Int) :
    aStore Tryz.prog m 3 (.pointer (some ⟨g, i, none⟩)) (.int .i64 x) = some (m.set g (some (.cells false 1 (cs.set i (.int .i64 x))))) := by
  unfold aStore
  simp only [hg, inf_int, int_size, cells_int, one_int]
  rw [if_pos ⟨rfl, by simp; omega, trivial⟩]
  rfl
theorem wr {x : Int} (h0 : 0 ≤ x) (h1 : x ≤ 4611686018427387904) : IntKind.i64.wrap x = x := by
  obtain ⟨n, rfl⟩ := Int.eq_ofNat_of_zero_le h0
  exact (idx (n : Int) n rfl (by omega)).1
theorem aStr_add (a b : ByteArray) : aStr .add a b = if bsize a + bsize b ≤ 4611686018427387904 then some (.string (bcat a b)) else none := rfl
theorem aStr_eql (a b : ByteArray) : aStr .eql a b = some (.bool (beqB a b)) := rfl
theorem bsize_str (l : List UInt8) : bsize (str l) = l.length := rfl
theorem bcat_str (l : List UInt8) (s : ByteArray) : bcat (str l) s = str (l ++ s.data.toList) := rfl
theorem str_list (l : List UInt8) : (str l).data.toList = l := rfl
theorem bsize_data (s : ByteArray) : bsize s = s.size := by rw [bsize, Array.length_toList]; rfl
theorem new_bytes_str (l : List UInt8) (hl : l.length ≤ 140737488355328) : nToBytes Tryz.prog 9 74 (str l) = some (.cells false 1 (bytesV l)) := new_bytes (str l) hl
theorem slice_str {get : Nat → Option Blk} (s : ByteArray) (h : Int) (h1 : 0 ≤ h) (h2 : h ≤ (bsize s : Nat)) :
    gSlice Tryz.prog get 9 (.string s) none (some (.int .i64 h)) = some (.string (bsub s 0 h.toNat)) := by
  unfold gSlice aBound
  simp only [Tryz.underlying9, if_pos (And.intro h1 h2)]
theorem store_u8 {m : Mem} {g : Nat} {cs : List Value} (hg : m.get g = some (.cells false 1 cs)) {i : Nat} (hi : i < cs.length) (x : Int) :
    aStore Tryz.prog m 5 (.pointer (some ⟨g, i, none⟩)) (.int .u8 x) = some (m.set g (some (.cells false 1 (cs.set i (.int .u8 x))))) := by
  unfold aStore
  simp only [hg, inf_u8, u8_size, cells_int, one_int]
  rw [if_pos ⟨rfl, by simp; omega, trivial⟩]
  rfl
theorem aInt_add (k : IntKind) (a b : Int) : aInt .add k a b = some (.int k (k.wrap (a + b))) := rfl
theorem aInt_sub (k : IntKind) (a b : Int) : aInt .sub k a b = some (.int k (k.wrap (a - b))) := rfl
theorem aInt_mul (k : IntKind) (a b : Int) : aInt .mul k a b = some (.int k (k.wrap (a * b))) := rfl
theorem aInt_quo (k : IntKind) (a b : Int) : aInt .quo k a b = if b = 0 then none else some (.int k (k.wrap (a.tdiv b))) := rfl
theorem aInt_rem (k : IntKind) (a b : Int) : aInt .rem k a b = if b = 0 then none else some (.int k (a.tmod b)) := rfl
theorem aInt_and (k : IntKind) (a b : Int) : aInt .and k a b = some (.int k (bits .and k a b)) := rfl
theorem aInt_or (k : IntKind) (a b : Int) : aInt .or k a b = some (.int k (bits .or k a b)) := rfl
theorem aInt_xor (k : IntKind) (a b : Int) : aInt .xor k a b = some (.int k (bits .xor k a b)) := rfl
theorem aInt_eql (k : IntKind) (a b : Int) : aInt .eql k a b = some (.bool (a == b)) := rfl
theorem aInt_neq (k : IntKind) (a b : Int) : aInt .neq k a b = some (.bool (a != b)) := rfl
theorem aInt_lss (k : IntKind) (a b : Int) : aInt .lss k a b = some (.bool (decide (a < b))) := rfl
theorem aInt_leq (k : IntKind) (a b : Int) : aInt .leq k a b = some (.bool (decide (a ≤ b))) := rfl
theorem aInt_gtr (k : IntKind) (a b : Int) : aInt .gtr k a b = some (.bool (decide (a > b))) := rfl
theorem aInt_geq (k : IntKind) (a b : Int) : aInt .geq k a b = some (.bool (decide (a ≥ b))) := rfl
theorem bits_i64 : IntKind.i64.bits = 64 := rfl
theorem new_int (x : Int) : nBuildSlice Tryz.prog 37 1 [(0, .int .i64 x)] = some (.cells false 1 [.int .i64 x]) :=
  new_one Tryz.underlying37 inf_int int_zero int_size rfl rfl rfl _ rfl rfl
theorem new_u8 (x : Int) : nBuildSlice Tryz.prog 74 1 [(0, .int .u8 x)] = some (.cells false 1 [.int .u8 x]) :=
  new_one Tryz.underlying74 inf_u8 u8_zero u8_size rfl rfl rfl _ rfl rfl
theorem Sl.app_int {m₀ m : Mem} {s : Value} {xs : List Value} (h : Sl m s xs) (hgr : Grows m₀ m) (hnew : ∀ g l c, s = .slice (some ⟨g, 0, none⟩) l c → m₀.size ≤ g) (v : Value) (hb : xs.length ≤ 17592186044415) :
    ∃ s' m', aAppend Tryz.prog (m.push (.cells false 1 [v])) 37 37 s (.slice (some ⟨m.size, 0, none⟩) 1 1) = some (s', m') ∧ Sl m' s' (xs ++ [v]) ∧ Grows m₀ m' ∧ (∀ g l c, s' = .slice (some ⟨g, 0, none⟩) l c → m₀.size ≤ g) :=
  Sl.app Tryz.underlying37 inf_int int_zero int_size rfl h hgr hnew v (by rw [int_bytes]; omega) (by omega)
theorem Sl.app_u8 {m₀ m : Mem} {s : Value} {xs : List Value} (h : Sl m s xs) (hgr : Grows m₀ m) (hnew : ∀ g l c, s = .slice (some ⟨g, 0, none⟩) l c → m₀.size ≤ g) (v : Value) (hb : xs.length ≤ 140737488355327) :
    ∃ s' m', aAppend Tryz.prog (m.push (.cells false 1 [v])) 74 74 s (.slice (some ⟨m.size, 0, none⟩) 1 1) = some (s', m') ∧ Sl m' s' (xs ++ [v]) ∧ Grows m₀ m' ∧ (∀ g l c, s' = .slice (some ⟨g, 0, none⟩) l c → m₀.size ≤ g) :=
  Sl.app Tryz.underlying74 inf_u8 u8_zero u8_size rfl h hgr hnew v (by rw [u8_bytes]; omega) (by omega)
def zS := And.intro (And.intro (And.intro (And.intro (And.intro (And.intro (And.intro @alOf.eq_1 @alOf.eq_2) (And.intro @sOps.eq_1 @sOpsB.eq_1)) (And.intro (And.intro @sOpsB.eq_2 @sOp.eq_1) (And.intro @sOne.eq_1 (And.intro @sHOne.eq_1 @sHOp.eq_1)))) (And.intro (And.intro (And.intro @sGuard.eq_1 @sWant.eq_1) (And.intro @sFun.eq_1 @sGuarded.eq_1)) (And.intro (And.intro @sGuarded.eq_2 @isFn.eq_1) (And.intro @isFn.eq_3 (And.intro @kind.eq_1 @kind.eq_2))))) (And.intro (And.intro (And.intro (And.intro @kind.eq_3 @kind.eq_4) (And.intro @kind.eq_5 @kind.eq_6)) (And.intro (And.intro @kind.eq_8 @kind.eq_9) (And.intro @kind.eq_10 (And.intro @kind.eq_11 @kind.eq_12)))) (And.intro (And.intro (And.intro @kindB.eq_1 @kindB.eq_2) (And.intro @kindB.eq_3 @kindB.eq_4)) (And.intro (And.intro @kindC.eq_1 @kindC.eq_2) (And.intro @kindT.eq_1 (And.intro @kindT.eq_2 @withV_some)))))) (And.intro (And.intro (And.intro (And.intro (And.intro @withV_ite @sVal.eq_1) (And.intro @sVal.eq_2 @sVal.eq_3)) (And.intro (And.intro @sVal.eq_4 @sVal.eq_5) (And.intro @sVal.eq_6 (And.intro @sVal.eq_7 @sVal.eq_8)))) (And.intro (And.intro (And.intro @sVal.eq_9 @sVal.eq_11) (And.intro @sVal.eq_12 @sVal.eq_13)) (And.intro (And.intro @sVal.eq_14 @sVal.eq_15) (And.intro @sVal.eq_16 (And.intro @sVal.eq_17 @sVal.eq_18))))) (And.intro (And.intro (And.intro (And.intro @sVal.eq_19 @sVal.eq_20) (And.intro @sNew.eq_1 @sNew.eq_2)) (And.intro (And.intro @sNew.eq_3 @sNew.eq_4) (And.intro @sNew.eq_5 (And.intro @sMem.eq_1 @sMem.eq_2)))) (And.intro (And.intro (And.intro @sMem.eq_3 @sMem.eq_5) (And.intro @sAny.eq_1 @sLookup.eq_1)) (And.intro (And.intro @sEntry.eq_1 @sArgs.eq_1) (And.intro @sArgs.eq_2 (And.intro @sParts.eq_1 @sParts.eq_2))))))) (And.intro (And.intro (And.intro (And.intro (And.intro (And.intro @sBin.eq_1 @sConv.eq_1) (And.intro @sConv.eq_3 @vSlice.eq_1)) (And.intro (And.intro @fOpt.eq_1 @fOpt.eq_2) (And.intro @vPick.eq_1 (And.intro @vPick.eq_2 @vLoad.eq_1)))) (And.intro (And.intro (And.intro @vIndexAddr.eq_1 @vIndex.eq_1) (And.intro @vExtract.eq_1 @vUn.eq_1)) (And.intro (And.intro @sCallee.eq_1 @AL.look.eq_1) (And.intro @AL.look.eq_2 (And.intro @AL.look.eq_3 @AL.get.eq_1))))) (And.intro (And.intro (And.intro (And.intro @AL.get.eq_2 @AL.keep.eq_1) (And.intro @AL.keep.eq_2 @flat.eq_1)) (And.intro (And.intro @flat.eq_2 @flat.eq_5) (And.intro @flat.eq_6 (And.intro @flat.eq_7 @sPut.eq_1)))) (And.intro (And.intro (And.intro @sPut.eq_2 @isC.eq_1) (And.intro @isC.eq_2 @sThen.eq_1)) (And.intro (And.intro @sThen.eq_2 @sBlock.eq_1) (And.intro @sBlock.eq_2 (And.intro @sHead.eq_1 @sHeadB.eq_1)))))) (And.intro (And.intro (And.intro (And.intro (And.intro @sHeadB.eq_2 @sEnd.eq_1) (And.intro @sEnd.eq_3 @List.take_succ_cons.{0})) (And.intro (And.intro @List.take_zero.{0} @List.drop_succ_cons.{0}) (And.intro @List.drop_zero.{0} (And.intro @aBin.eq_1 @aBin.eq_2)))) (And.intro (And.intro (And.intro @aBin.eq_3 @aBin.eq_4) (And.intro @aInt_add @aInt_sub)) (And.intro (And.intro @aInt_mul @aInt_quo) (And.intro @aInt_rem (And.intro @aInt_and @aInt_or))))) (And.intro (And.intro (And.intro (And.intro @aInt_xor @aInt_eql) (And.intro @aInt_neq @aInt_lss)) (And.intro (And.intro @aInt_leq @aInt_gtr) (And.intro @aInt_geq (And.intro @aStr_add @aStr_eql)))) (And.intro (And.intro (And.intro @Bool.false_eq_true @Bool.or_true) (And.intro @Bool.or_false @if_true.{1})) (And.intro (And.intro @if_false.{1} @true_and) (And.intro @and_true (And.intro @List.nil_append.{0} @List.append_nil.{0})))))))
def zT := And.intro (And.intro (And.intro (And.intro Tryz.underlying74 (And.intro Tryz.underlying5 Tryz.underlying3)) (And.intro Tryz.underlying37 (And.intro Tryz.underlying9 @inf_u8))) (And.intro (And.intro @inf_int (And.intro @inf_str @u8_size)) (And.intro @int_size (And.intro @Abs.str_size @aIndexAddr.eq_1)))) (And.intro (And.intro (And.intro @gLoad.eq_1 (And.intro @Nat.mul_one @Nat.zero_add)) (And.intro @aLen.eq_1 (And.intro @aLen.eq_2 @aLen.eq_3))) (And.intro (And.intro @vCall.eq_1 (And.intro @vBuiltin.eq_1 @vBuiltin.eq_3)) (And.intro @vLen.eq_1 (And.intro @new_int @new_u8))))
end Go.Proofs.YtkkleedpakcfgaaGreatDoor.Abs
namespace Go.Proofs.YtkkleedpakcfgaaGreatDoor.Abs
open Go Go.RowKit
section
variable {P : Program} {m : Mem} {B : Nat} {t : TypeId} {cs : List Value}
theorem ARep.inv_int {k : IntKind} (hu : P.underlying t = some (.int k)) (h : ARep P m B t cs) : ∃ n, cs = [.int k n] ∧ (Lit.int k n).wf = true := by
  cases h <;> simp_all
theorem ARep.inv_string (hu : P.underlying t = some .string) (h : ARep P m B t cs) : ∃ s, cs = [.string s] ∧ s.size ≤ B := by
  cases h <;> simp_all
def Rd (m : Mem) (n : Nat) (v : Value) (k : Nat) (cells : List Value) : Prop :=
  ∃ a cap, v = .slice a k cap ∧ cells.length = k * n ∧ k ≤ cap ∧ cap ≤ maxLen ∧ (a = none → cap = 0) ∧ ∀ p, a = some p → ∃ b, p = ⟨b, 0, none⟩ ∧ (k ≠ 0 → ∃ ro, m.get b = some (.cells ro n cells))
end
theorem flatMap_at {α : Type} (f : α → List Value) (n : Nat) : ∀ (xs : List α) (i : Nat) (x : α), (∀ x ∈ xs, (f x).length = n) → xs[i]? = some x → ((xs.flatMap f).drop (i * n)).take n = f x
  | [], i, x, _, h => by simp at h
  | y :: r, 0, x, hl, h => by
    simp at h; subst h
    rw [Nat.zero_mul, List.drop_zero, List.flatMap_cons, ← hl y (by simp), List.take_left']
    rfl
  | y :: r, i + 1, x, hl, h => by
    have := flatMap_at f n r i x (fun x hx => hl x (by simp [hx])) (by simpa using h)
    rw [List.flatMap_cons, Nat.add_mul, Nat.one_mul, List.drop_append, List.drop_eq_nil_of_le (by rw [hl y (by simp)]; omega), List.nil_append, hl y (by simp), Nat.add_sub_cancel]
    exact this
theorem Rd.sliceOf {α : Type} {S : Shape α} (f : α → List Value) {ι : Nat → Loc} {m : Mem} {w : World} (hr : Rel ι m w) {xs : List α} {v v' : Value} (hd : Rd m S.n v xs.length (xs.flatMap f)) (hv : VRel m.Has ι v v')
    (hS : ∀ x ∈ xs, S.rep w (f x) x) (hf : ∀ x ∈ xs, ∀ c ∈ f x, flat 3 c = true) : SliceOf S w v' xs := by
  have hlen : ∀ x ∈ xs, (f x).length = S.n := fun x hx => S.len (hS x hx)
  obtain ⟨a, cap, rfl, h1, h2, h3, h4, h5⟩ := hd
  cases a with
  | none =>
    have h0 := h4 rfl
    subst h0
    have hx : xs = [] := List.eq_nil_of_length_eq_zero (by omega)
    subst hx
    cases hv
    exact SliceOf.nil S w
  | some p =>
    obtain ⟨b, rfl, hc⟩ := h5 p rfl
    by_cases h0 : xs = []
    · subst h0
      generalize hk : ([] : List α).length = k at hv
      cases hv with
      | slice _ _ _ _ cap' hlt hl hcc => exact ⟨_, cap', by rw [hk], .inl ⟨rfl, by rcases hcc with hcc | hcc <;> omega, fun h => by cases h⟩⟩
      | empty _ _ p hlt => exact ⟨_, 0, rfl, .inl ⟨rfl, Nat.zero_le _, fun h => by cases h⟩⟩
    · have hpos : 0 < xs.length := List.length_pos_iff.2 h0
      obtain ⟨ro, hg⟩ := hc (by omega)
      obtain ⟨C, e, fz, g1, g2, g3, g4, g5, g6⟩ := hr.at' _ _ _ _ hg
      generalize hk : xs.length = k at hv
      cases hv with
      | empty _ _ p hlt => omega
      | slice _ _ _ _ cap' hlt hl hcc =>
        refine ⟨_, cap', by rw [hk], .inr ⟨(ι b).blk, (ι b).base + 0, rfl, lt_of_heap g1, by rcases hcc with hcc | hcc <;> omega, by rcases hcc with hcc | hcc <;> omega, fun i x hx => ⟨f x, hS x (List.mem_of_getElem? hx), fun j c hj => ?_⟩⟩⟩
        have hfa := flatMap_at f S.n xs i x hlen hx
        have hj0 : j < S.n := by rw [← hlen x (List.mem_of_getElem? hx)]; exact (List.getElem?_eq_some_iff.1 hj).1
        have hc : (xs.flatMap f)[i * S.n + j]? = some c := by
          rw [← hfa, List.getElem?_take, if_pos hj0, List.getElem?_drop] at hj
          exact hj
        obtain ⟨_, v', h8, h9⟩ := g5 _ c hc
        have hfl := hf x (List.mem_of_getElem? hx) c (List.mem_of_getElem? hj)
        rw [← flat_eq 3 c v' hfl h9] at h8
        rw [cell_of_block g1, ← h8]
        congr 1
        omega
theorem vrels_two {n : Nat → Prop} {ι : Nat → Loc} {a b : Value} {ys : List Value} (h : VRels n ι [a, b] ys) : ∃ a' b', ys = [a', b'] ∧ VRel n ι a a' ∧ VRel n ι b b' := by
  have hl := h.1
  match ys, hl with
  | [a', b'], _ => exact ⟨a', b', rfl, h.2 0 _ _ rfl rfl, h.2 1 _ _ rfl rfl⟩
theorem map_flat {α β : Type} (f : α → β) : ∀ l : List α, l.map f = l.flatMap fun x => [f x]
  | [] => rfl
  | x :: r => by rw [List.map_cons, List.flatMap_cons, map_flat f r]; rfl
theorem Rd.strs {ι : Nat → Loc} {m : Mem} {w : World} (hr : Rel ι m w) {xs : List ByteArray} {v v' : Value} (hd : Rd m 1 v xs.length (xs.map .string)) (hv : VRel m.Has ι v v') : SliceOf strS w v' xs := by
  rw [map_flat] at hd
  exact Rd.sliceOf (S := strS) (fun s => [.string s]) hr hd hv (fun _ _ => rfl) fun x _ c hc => by simp at hc; subst hc; rfl
theorem args_one {P : Program} {m : Mem} {B : Nat} {t : TypeId} {ts : List TypeId} {vs : List Value} (h : ArgsOf P m B (t :: ts) vs) : ∃ v r, vs = v :: r ∧ ArgOf P m B t v ∧ ArgsOf P m B ts r := by
  cases h with
  | cons h hs => exact ⟨_, _, rfl, h, hs⟩
theorem args_nil {P : Program} {m : Mem} {B : Nat} {vs : List Value} (h : ArgsOf P m B [] vs) : vs = [] := by cases h; rfl
theorem arg_str {P : Program} {m : Mem} {B : Nat} {t : TypeId} {v : Value} (hu : P.underlying t = some .string) (h : ArgOf P m B t v) : ∃ s, v = .string s ∧ s.size ≤ B := by
  unfold ArgOf at h
  rw [hu] at h
  obtain ⟨s, e, hs⟩ := h.inv_string hu
  exact ⟨s, by simpa using e, hs⟩
theorem arg_int {P : Program} {m : Mem} {B : Nat} {t : TypeId} {v : Value} {k : IntKind} (hu : P.underlying t = some (.int k)) (h : ArgOf P m B t v) : ∃ n, v = .int k n ∧ (Lit.int k n).wf = true := by
  unfold ArgOf at h
  rw [hu] at h
  obtain ⟨n, e, hs⟩ := h.inv_int hu
  exact ⟨n, by simpa using e, hs⟩
end Go.Proofs.YtkkleedpakcfgaaGreatDoor.Abs
namespace Go.Proofs.YtkkleedpakcfgaaGreatDoor.Abs
open Go Go.RowKit
def rowIn (n o : Nat) : Option Blk → Option Value
  | some (.cells _ _ cs) => if o + n ≤ cs.length then some (.agg ((cs.drop o).take n).toArray) else none
  | _ => none
def cellIn (o : Nat) : Option Blk → Option Value
  | some (.cells _ _ cs) => cs[o]?
  | _ => none
def putIn (n : Nat) (m : Mem) (b o : Nat) (vs : List Value) : Option Blk → Option Mem
  | some (.cells false s cs) => if vs.length = n ∧ o + vs.length ≤ cs.length ∧ oneAll vs = true then some (m.set b (some (.cells false s (setL cs o vs)))) else none
  | _ => none
section
variable {P : Program} {t : TypeId} {d : TypeDesc} {i : TypeInfo} {n : Nat}
theorem ld_row (hu : P.underlying t = some d) (hd : d.isRow = true) (hi : P.info? t = some i) (hs : i.size = n) (get : Nat → Option Blk) (b o : Nat) : gLoad P get t (.pointer (some ⟨b, o, none⟩)) = rowIn n o (get b) := by
  subst hs
  cases hb : get b with
  | none => simp only [gLoad, hb, rowIn]
  | some x => cases x <;> simp only [gLoad, hb, rowIn, hu, hd, if_true, hi]
theorem ld_cell (hu : P.underlying t = some d) (hd : d.isRow = false) (get : Nat → Option Blk) (b o : Nat) : gLoad P get t (.pointer (some ⟨b, o, none⟩)) = cellIn o (get b) := by
  cases hb : get b with
  | none => simp only [gLoad, hb, cellIn]
  | some x => cases x <;> simp only [gLoad, hb, cellIn, hu, hd, Bool.false_eq_true, if_false]
theorem st_any (hi : P.info? t = some i) (hs : i.size = n) (m : Mem) (b o : Nat) (v : Value) : aStore P m t (.pointer (some ⟨b, o, none⟩)) v = putIn n m b o v.cells.toList (m.get b) := by
  subst hs
  cases hb : m.get b with
  | none => simp only [aStore, hb, putIn]
  | some x => rcases x with ⟨ro, s, cs⟩ | ⟨ro, es, c⟩ | ⟨ro, d, s, l, k⟩ | ⟨ro, C, e, lo, hi9⟩ <;> cases ro <;> simp only [aStore, hb, putIn, hi]
end
theorem aLoad_g (P : Program) (m : Mem) (t : TypeId) (p : Value) : aLoad P m t p = gLoad P m.get t p := by
  unfold aLoad gLoad
  rfl
theorem g_tf : ((some true : Option Bool) == some false) = false := rfl
theorem g_ff : ((some false : Option Bool) == some false) = true := rfl
theorem aUn_not (b : Bool) : aUn .not (.bool b) = some (.bool !b) := rfl
theorem agg_cells (xs : Array Value) : (Value.agg xs).cells.toList = xs.toList := rfl
theorem row_struct (fs : Array Field) : (TypeDesc.struct fs).isRow = true := rfl
theorem putIn_whole {n : Nat} (m : Mem) (b : Nat) {s : Nat} {vs cs : List Value} (h1 : vs.length = n) (h2 : cs.length = n) (h3 : oneAll vs = true) : putIn n m b 0 vs (some (.cells false s cs)) = some (m.set b (some (.cells false s vs))) := by
  unfold putIn
  simp only
  rw [if_pos ⟨h1, by omega, h3⟩]
  congr 5
  apply List.ext_getElem?
  intro j
  rw [setL_get _ _ _ _ (by omega)]
  by_cases hj : j < vs.length
  · rw [if_pos (by omega), Nat.sub_zero]
  · rw [if_neg (by omega), List.getElem?_eq_none (by omega), List.getElem?_eq_none (by omega)]
theorem nBox_row {P : Program} (t : TypeId) {xs : Array Value} (h : oneAll xs.toList = true) : nBox P t (.agg xs) = some (.cells false (aStride P t) xs.toList) := by
  unfold nBox
  rw [agg_cells, if_pos h]
def zZ := And.intro (And.intro (And.intro (And.intro (And.intro (And.intro (And.intro @alOf.eq_1 @alOf.eq_2) (And.intro @sOps.eq_1 (And.intro @sOpsB.eq_1 @sOpsB.eq_2))) (And.intro (And.intro @sOp.eq_1 (And.intro @sOne.eq_1 @sHOne.eq_1)) (And.intro @sHOp.eq_1 (And.intro @sGuard.eq_1 @sWant.eq_1)))) (And.intro (And.intro (And.intro @sFun.eq_1 (And.intro @sGuarded.eq_1 @sGuarded.eq_2)) (And.intro @isFn.eq_1 (And.intro @isFn.eq_3 @kind.eq_1))) (And.intro (And.intro @kind.eq_2 (And.intro @kind.eq_3 @kind.eq_4)) (And.intro @kind.eq_5 (And.intro @kind.eq_6 @kind.eq_8))))) (And.intro (And.intro (And.intro (And.intro @kind.eq_9 @kind.eq_10) (And.intro @kind.eq_11 (And.intro @kind.eq_12 @kindB.eq_1))) (And.intro (And.intro @kindB.eq_2 (And.intro @kindB.eq_3 @kindB.eq_4)) (And.intro @kindC.eq_1 (And.intro @kindC.eq_2 @kindT.eq_1)))) (And.intro (And.intro (And.intro @kindT.eq_2 (And.intro @withV_some @withV_ite)) (And.intro @sVal.eq_1 (And.intro @sVal.eq_2 @sVal.eq_3))) (And.intro (And.intro @sVal.eq_4 (And.intro @sVal.eq_5 @sVal.eq_6)) (And.intro @sVal.eq_7 (And.intro @sVal.eq_8 @sVal.eq_9)))))) (And.intro (And.intro (And.intro (And.intro (And.intro @sVal.eq_11 @sVal.eq_12) (And.intro @sVal.eq_13 (And.intro @sVal.eq_14 @sVal.eq_15))) (And.intro (And.intro @sVal.eq_16 (And.intro @sVal.eq_17 @sVal.eq_18)) (And.intro @sVal.eq_19 (And.intro @sVal.eq_20 @sNew.eq_1)))) (And.intro (And.intro (And.intro @sNew.eq_2 (And.intro @sNew.eq_3 @sNew.eq_4)) (And.intro @sNew.eq_5 (And.intro @sMem.eq_1 @sMem.eq_2))) (And.intro (And.intro @sMem.eq_3 (And.intro @sMem.eq_5 @sAny.eq_1)) (And.intro @sLookup.eq_1 (And.intro @sEntry.eq_1 @sArgs.eq_1))))) (And.intro (And.intro (And.intro (And.intro @sArgs.eq_2 (And.intro @sParts.eq_1 @sParts.eq_2)) (And.intro @sBin.eq_1 (And.intro @sConv.eq_1 @sConv.eq_3))) (And.intro (And.intro @vSlice.eq_1 (And.intro @fOpt.eq_1 @fOpt.eq_2)) (And.intro @vPick.eq_1 (And.intro @vPick.eq_2 @vLoad.eq_1)))) (And.intro (And.intro (And.intro @vIndexAddr.eq_1 (And.intro @vIndex.eq_1 @vExtract.eq_1)) (And.intro @vUn.eq_1 (And.intro @aUn_not @Bool.not_false))) (And.intro (And.intro @sCallee.eq_1 (And.intro @AL.look.eq_1 @AL.look.eq_2)) (And.intro @AL.look.eq_3 (And.intro @AL.get.eq_1 @AL.get.eq_2))))))) (And.intro (And.intro (And.intro (And.intro (And.intro (And.intro @AL.keep.eq_1 @AL.keep.eq_2) (And.intro @flat.eq_1 (And.intro @flat.eq_2 @flat.eq_5))) (And.intro (And.intro @flat.eq_6 (And.intro @flat.eq_7 @sPut.eq_1)) (And.intro @sPut.eq_2 (And.intro @isC.eq_1 @isC.eq_2)))) (And.intro (And.intro (And.intro @sThen.eq_1 (And.intro @sThen.eq_2 @sBlock.eq_1)) (And.intro @sBlock.eq_2 (And.intro @cThen.eq_1 @cThen.eq_2))) (And.intro (And.intro @cBlock.eq_1 (And.intro @cBlock.eq_2 @sHead.eq_1)) (And.intro @sHeadB.eq_1 (And.intro @sHeadB.eq_2 @sEnd.eq_1))))) (And.intro (And.intro (And.intro (And.intro @sEnd.eq_3 @List.take_succ_cons.{0}) (And.intro @List.take_zero.{0} (And.intro @List.drop_succ_cons.{0} @List.drop_zero.{0}))) (And.intro (And.intro @aBin_ii (And.intro @aBin_ss @aBinI.eq_3)) (And.intro @aInt_add (And.intro @aInt_sub @aInt_mul)))) (And.intro (And.intro (And.intro @aInt_quo (And.intro @aInt_rem @aInt_and)) (And.intro @aInt_or (And.intro @aInt_xor @aInt_eql))) (And.intro (And.intro @aInt_neq (And.intro @aInt_lss @aInt_leq)) (And.intro @aInt_gtr (And.intro @aInt_geq @aStr_add)))))) (And.intro (And.intro (And.intro (And.intro (And.intro @aStr_eql @Bool.false_eq_true) (And.intro @Bool.or_true (And.intro @Bool.or_false @if_true.{1}))) (And.intro (And.intro @if_false.{1} (And.intro @true_and @and_true)) (And.intro @List.nil_append.{0} (And.intro @List.append_nil.{0} Tryz.underlying74)))) (And.intro (And.intro (And.intro Tryz.underlying5 (And.intro Tryz.underlying3 Tryz.underlying37)) (And.intro Tryz.underlying9 (And.intro @inf_u8 @inf_int))) (And.intro (And.intro @inf_str (And.intro @u8_size @int_size)) (And.intro @Abs.str_size (And.intro @aIndexAddr.eq_1 @Nat.mul_one))))) (And.intro (And.intro (And.intro (And.intro @Nat.zero_add (And.intro @aLen.eq_1 @aLen.eq_2)) (And.intro @aLen.eq_3 (And.intro @vCall.eq_1 @vBuiltin.eq_1))) (And.intro (And.intro @vBuiltin.eq_3 (And.intro @vLen.eq_1 @new_int)) (And.intro @new_u8 (And.intro @Int.toNat_natCast @vFieldAddr.eq_1)))) (And.intro (And.intro (And.intro @vBuild.eq_1 (And.intro @vNil.eq_1 @vNil.eq_3)) (And.intro @List.length_cons.{0} (And.intro @List.length_nil.{0} @List.cons_append.{0}))) (And.intro (And.intro @cellIn.eq_1 (And.intro @Region.wanted.eq_1 @g_tf)) (And.intro @g_ff (And.intro @List.getElem?_cons_succ.{0} @List.getElem?_cons_zero.{0})))))))
end Go.Proofs.YtkkleedpakcfgaaGreatDoor.Abs
namespace Go.Proofs.YtkkleedpakcfgaaGreatDoor.Abs
open Go
structure Thin (m m' : Mem) : Prop where
  has : ∀ b, m.Has b → m'.Has b
  get : ∀ b ro s cs, m'.get b = some (.cells ro s cs) → ∃ r, m.get b = some (.cells r s cs) ∧ (r = true → ro = true)
  oth : ∀ b x, m'.get b = some x → (∃ ro s cs, x = .cells ro s cs) ∨ m.get b = some x
theorem Thin.refl (m : Mem) : Thin m m := ⟨fun _ h => h, fun b ro s cs h => ⟨ro, h, fun h => h⟩, fun _ _ h => .inr h⟩
theorem Thin.own {m m' : Mem} (h : Thin m m') {b : Nat} (hb : m'.Own b) : m.Own b := by
  obtain ⟨x, hb, hx⟩ := hb
  rcases h.oth b x hb with ⟨ro, s, cs, rfl⟩ | h1
  · have hro : ro = false := by simpa [Blk.own] using hx
    subst hro
    obtain ⟨r, h1, h2⟩ := h.get b false s cs hb
    cases r with
    | false => exact .of h1
    | true => cases h2 rfl
  · exact ⟨x, h1, hx⟩
theorem Thin.live {m m' : Mem} (h : Thin m m') {b : Nat} (hb : m'.get b ≠ none) : m.get b ≠ none := by
  cases hx : m'.get b with
  | none => exact absurd hx hb
  | some x =>
    rcases h.oth b x hx with ⟨ro, s, cs, rfl⟩ | h1
    · obtain ⟨r, h1, _⟩ := h.get b ro s cs hx
      rw [h1]; simp
    · rw [h1]; simp
theorem Rel.thin {ι : Nat → Loc} {m m' : Mem} {w : World} (h : Rel ι m w) (k : Thin m m') : Rel ι m' w := by
  refine ⟨fun b ro s cs hb => ?_, fun b x hb => ?_, fun b b' hb hb' hne => h.inj b b' (k.live hb) (k.own hb') hne, ⟨h.glob.known, fun b hb => h.glob.own b (k.own hb)⟩⟩
  rotate_left
  · rcases k.oth b x hb with ⟨ro, s, cs, rfl⟩ | h1
    · trivial
    · exact (h.oth b x h1).mono k.has fun _ _ => rfl
  obtain ⟨r, h1, h2⟩ := k.get b ro s cs hb
  obtain ⟨C, e, fz, g1, g2, g3, g4, g5, g6⟩ := h.at' b r s cs h1
  refine ⟨C, e, fz, g1, g2, g3, g4, fun i v hi => ?_, fun hro => g6 ?_⟩
  · obtain ⟨g7, v', g8, g9⟩ := g5 i v hi
    exact ⟨g7, v', g8, g9.mono k.has fun _ _ => rfl⟩
  · cases r with
    | false => rfl
    | true => rw [h2 rfl] at hro; cases hro
theorem Step.thin {ι₀ ι : Nat → Loc} {m₀ m m' : Mem} {w₀ w : World} (h : Step ι₀ m₀ w₀ ι m w) (k : Thin m m') : Step ι₀ m₀ w₀ ι m' w :=
  ⟨h.os, h.tape, h.output, h.size, fun b hb => k.has b (h.grows b hb), h.at_, h.block, fun b hb => h.own b (k.own hb)⟩
theorem Spec.thin {P : Program} {f : FuncId} {xs : List Value} {m : Mem} {R R' : Value → Mem → Prop} (h : Spec P f xs m R) (hr : ∀ v M, R v M → ∃ M', Thin M M' ∧ R' v M') : Spec P f xs m R' := by
  intro ι w ys hy hw
  refine (h ι w ys hy hw).mono ?_
  rintro e w' ⟨v, v', κ, M, h1, h2, h3, h4, h5⟩
  obtain ⟨M', k1, k2⟩ := hr v M h1
  exact ⟨v, v', κ, M', k2, h2, h3.mono k1.has fun _ _ => rfl, h4.thin k1, h5.thin k1⟩
def keepF (f : AL) : List Nat → Option AL
  | [] => some []
  | t :: r => match AL.get f t with
    | none => none
    | some v => match keepF f r with
      | none => none
      | some q => some ((t, v) :: q)
theorem keepF_get {f : AL} : ∀ {ts : List Nat} {q : AL}, keepF f ts = some q → ∀ (t : Nat) (v : Value), AL.get q t = some v → AL.get f t = some v
  | [], q, h, t, v, hv => by simp only [keepF, Option.some.injEq] at h; subst h; simp [AL.get] at hv
  | u :: r, q, h, t, v, hv => by
    simp only [keepF] at h
    split at h <;> first | (cases h; done) | skip
    rename_i x hx
    split at h <;> first | (cases h; done) | skip
    rename_i q' hq'
    cases h
    simp only [AL.get] at hv
    split at hv
    · rename_i e; subst e; cases hv; exact hx
    · exact keepF_get hq' t v hv
theorem Knows.keepF {n : Nat} {f f' : AL} {a : List Value} {ts : List Nat} (h : Knows n f a) (hk : keepF f ts = some f') : Knows n f' a := ⟨h.1, fun t v hv => h.2 t v (keepF_get hk t v hv)⟩
def JoinM (f : AL) (m : Mem) [J : Box (AL → Mem → Prop)] : Prop := ∃ slots, @withV _ (keepF f slots) ⟨fun f' => ∃ m', Thin m m' ∧ J.k f' m'⟩
section
variable {P : Program} {n k : Nat} {f : AL} {m : Mem} {Q : Exit → AL → Mem → Prop}
theorem MW_loop {c : Code} (I : Nat → AL → Mem → Prop) (j₀ : Nat) (h₀ : @JoinM f m ⟨I j₀⟩)
    (round : ∀ j f m, I j f m → @CW P n k ⟨c⟩ ⟨@cThen ⟨fun f' m' => @JoinM f' m' ⟨fun f2 m2 => ∃ j', I j' f2 m2 ∧ j' < j⟩⟩ ⟨Q⟩⟩ f m) : @CW P n k ⟨.loop c⟩ ⟨Q⟩ f m := by
  intro a ha ι₀ m₀ w₀ ι act w h0 hs hA hr
  have run : ∀ j f m, I j f m → ∀ (a : List Value) (ι : Nat → Loc) (act : Act) (w : World), Knows n f a → Step ι₀ m₀ w₀ ι m w → ARel m.Has ι a act → Rel ι m w →
      Code.rounds P c (Post ι₀ m₀ w₀ fun e a' m' => ∃ f', Knows n f' a' ∧ Q e f' m') (j + 1) act w := by
    intro j
    induction j using Nat.strongRecOn with
    | _ j ih =>
      intro f m hI a ι act w ha hs hA hr
      refine wp_mono (round j f m hI a ha ι₀ m₀ w₀ ι act w h0 hs hA hr) ?_
      rintro e act2 w2 ⟨κ, a2, m2, ⟨f2, hf2, hq2⟩, ha2, hr2, hs2⟩
      cases e with
      | normal =>
        obtain ⟨slots, hq2⟩ := hq2
        obtain ⟨f3, hf3, m3, ht, j', hI', hlt⟩ := withV_spec hq2
        exact SW_loop.rounds_le (ih j' hlt f3 m3 hI' a2 κ act2 w2 (hf2.keepF hf3) (hs2.thin ht) (ha2.mono ht.has fun _ _ => rfl) (hr2.thin ht)) (by omega)
      | _ => exact ⟨κ, a2, m2, ⟨f2, hf2, hq2⟩, ha2, hr2, hs2⟩
  obtain ⟨slots, hq2⟩ := h₀
  obtain ⟨f3, hf3, m3, ht, hI'⟩ := withV_spec hq2
  exact wp_loop_rounds (j₀ + 1) (run j₀ f3 m3 hI' a ι act w (ha.keepF hf3) (hs.thin ht) (hA.mono ht.has fun _ _ => rfl) (hr.thin ht))
theorem MW_mid {x y : Code} (I : AL → Mem → Prop) (h : @CW P n k ⟨x⟩ ⟨@cThen ⟨fun f' m' => @JoinM f' m' ⟨I⟩⟩ ⟨Q⟩⟩ f m) (hy : ∀ f m, I f m → @CW P n k ⟨y⟩ ⟨Q⟩ f m) : @CW P n k ⟨.seq x y⟩ ⟨Q⟩ f m := by
  refine CW_seq (h.mono ?_)
  intro e f' m' hq
  cases e with
  | normal =>
    obtain ⟨slots, hq⟩ := hq
    obtain ⟨f3, hf3, m3, ht, hI⟩ := withV_spec hq
    intro a ha ι₀ m₀ w₀ ι act w h0 hs hA hr
    exact hy f3 m3 hI a (ha.keepF hf3) ι₀ m₀ w₀ ι act w h0 (hs.thin ht) (hA.mono ht.has fun _ _ => rfl) (hr.thin ht)
  | _ => exact hq
def mEnd (P : Program) (rs : List ResultVar) (R : Value → Mem → Prop) : Exit → AL → Mem → Prop
  | .ret, f, m => @withV _ (sAnswer P rs f m) ⟨fun v => ∃ m', Thin m m' ∧ R v m'⟩
  | .normal, f, m => @withV _ (sAnswer P rs f m) ⟨fun v => ∃ m', Thin m m' ∧ R v m'⟩
  | _, _, _ => False
theorem Spec.walkM {g : FuncId} {fn : Func} {c : Code} {xs : List Value} {R : Value → Mem → Prop} {m : Mem} (hf : P.funcs[g]? = some fn) (hb : fn.body = some c) (rs : Array ResultVar) (hr : fn.results = rs) (n : Nat) (hn : fn.ntmps = n) (hx : xs.length ≤ n)
    (h : Within m → (∀ x ∈ xs, Cl m.Has x) → ∀ k, @CW P n k ⟨c⟩ ⟨mEnd P rs.toList R⟩ (alOf 0 xs) m) : Spec P g xs m R := by
  intro ι w ys hys hrel
  have hcl : ∀ x ∈ xs, Cl m.Has x := by
    intro x hx
    obtain ⟨i, hi, rfl⟩ := List.getElem_of_mem hx
    exact (hys.2 i _ _ (List.getElem?_eq_getElem hi) (List.getElem?_eq_getElem (by rw [← hys.1]; exact hi))).cl
  have hw := hrel.within
  have hs : Spec P g xs m fun v M => ∃ M', Thin M M' ∧ R v M' := by
    refine Spec.walk hf hb rs hr n hn hx fun a ha ι₀ m₀ w₀ ι act w hs hA hr => ?_
    refine wp_mono (h hw hcl m₀.size a ha ι₀ m₀ w₀ ι act w (Nat.le_refl _) hs hA hr) ?_
    rintro e act' w' ⟨κ, a', m', ⟨f', h1, h2⟩, h3⟩
    refine ⟨κ, a', m', ⟨f', h1, ?_⟩, h3⟩
    cases e <;> exact h2
  exact (hs.thin fun v M h => h) ι w ys hys hrel
end
end Go.Proofs.YtkkleedpakcfgaaGreatDoor.Abs
namespace Go.Proofs
open Go.Shelf
def Tryz.lays160_ren : Go.Shelf.Ren := ⟨fun | 160 => 103 | 232 => 163 | 231 => 162 | 227 => 164 | 234 => 166 | 233 => 165 | 236 => 168 | 235 => 167 | 228 => 215 | 271 => 218 | 151 => 217 | 197 => 216 | 120 => 254 | 152 => 253 | 260 => 252 | 137 => 272 | 119 => 273 | 224 => 274 | 225 => 275 | 217 => 281 | 266 => 283 | n => n, fun | 9 => 9 | 4 => 4 | 3 => 3 | 5 => 5 | 117 => 262 | 116 => 261 | 0 => 0 | 124 => 265 | 21 => 21 | 105 => 307 | 46 => 105 | 119 => 348 | 139 => 351 | 138 => 350 | n => n, fun | 3 => 1 | 4 => 2 | n => n⟩
theorem Tryz.lays160 : Go.Proofs.Lays.n160 Tryz.prog Tryz.lays160_ren := {
  mixed := by kernel_rfl
  f119 := Tryz.func273.trans (congrArg some (by kernel_rfl))
  f120 := Tryz.func254.trans (congrArg some (by kernel_rfl))
  f137 := Tryz.func272.trans (congrArg some (by kernel_rfl))
  f151 := Tryz.func217.trans (congrArg some (by kernel_rfl))
  f152 := Tryz.func253.trans (congrArg some (by kernel_rfl))
  f160 := Tryz.func103.trans (congrArg some (by kernel_rfl))
  f197 := Tryz.func216.trans (congrArg some (by kernel_rfl))
  f217 := Tryz.func281.trans (congrArg some (by kernel_rfl))
  f224 := Tryz.func274.trans (congrArg some (by kernel_rfl))
  f225 := Tryz.func275.trans (congrArg some (by kernel_rfl))
  f227 := Tryz.func164.trans (congrArg some (by kernel_rfl))
  f228 := Tryz.func215.trans (congrArg some (by kernel_rfl))
  f231 := Tryz.func162.trans (congrArg some (by kernel_rfl))
  f232 := Tryz.func163.trans (congrArg some (by kernel_rfl))
  f233 := Tryz.func165.trans (congrArg some (by kernel_rfl))
  f234 := Tryz.func166.trans (congrArg some (by kernel_rfl))
  f235 := Tryz.func167.trans (congrArg some (by kernel_rfl))
  f236 := Tryz.func168.trans (congrArg some (by kernel_rfl))
  f260 := Tryz.func252.trans (congrArg some (by kernel_rfl))
  f266 := Tryz.func283.trans (congrArg some (by kernel_rfl))
  f271 := Tryz.func218.trans (congrArg some (by kernel_rfl))
  t0 := Tryz.underlying0
  a0 := Tryz.isAgg0
  z0 := Tryz.sizeOf0
  v0 := Tryz.zeroValue0
  t3 := Tryz.underlying3
  a3 := Tryz.isAgg3
  z3 := Tryz.sizeOf3
  v3 := Tryz.zeroValue3
  t4 := Tryz.underlying4
  a4 := Tryz.isAgg4
  z4 := Tryz.sizeOf4
  v4 := Tryz.zeroValue4
  t5 := Tryz.underlying5
  a5 := Tryz.isAgg5
  z5 := Tryz.sizeOf5
  v5 := Tryz.zeroValue5
  t9 := Tryz.underlying9
  a9 := Tryz.isAgg9
  z9 := Tryz.sizeOf9
  v9 := Tryz.zeroValue9
  t21 := Tryz.underlying21
  a21 := Tryz.isAgg21
  z21 := Tryz.sizeOf21
  v21 := Tryz.zeroValue21
  t46 := Tryz.underlying105
  a46 := Tryz.isAgg105
  z46 := Tryz.sizeOf105
  v46 := Tryz.zeroValue105
  t105 := Tryz.underlying307
  a105 := Tryz.isAgg307
  z105 := Tryz.sizeOf307
  v105 := Tryz.zeroValue307
  t116 := Tryz.underlying261
  a116 := Tryz.isAgg261
  z116 := Tryz.sizeOf261
  t117 := Tryz.underlying262
  a117 := Tryz.isAgg262
  z117 := Tryz.sizeOf262
  v117 := Tryz.zeroValue262
  t119 := Tryz.underlying348
  a119 := Tryz.isAgg348
  z119 := Tryz.sizeOf348
  t124 := Tryz.underlying265
  a124 := Tryz.isAgg265
  z124 := Tryz.sizeOf265
  v124 := Tryz.zeroValue265
  t138 := Tryz.underlying350
  a138 := Tryz.isAgg350
  z138 := Tryz.sizeOf350
  v138 := Tryz.zeroValue350
  t139 := Tryz.underlying351
  a139 := Tryz.isAgg351
  z139 := Tryz.sizeOf351
  v139 := Tryz.zeroValue351
  g3 := by kernel_rfl
  g4 := by kernel_rfl }
open Go.RowKit in
theorem Tryz.strings_Trim_one (s : ByteArray) (c : UInt8) (hc : c.toNat < 128) (w : World) (hs : s.size ≤ 9223372036854775807) :
    Calls Tryz.prog 103 #[.string s, .string ⟨#[c]⟩] w fun e w' => e = .returned (.string ⟨(Lib.trimB s.data.toList c).toArray⟩) ∧ (w' = w ∨ w' = w.drew) := Any.strings_Trim_one Tryz.lays160 s c hc w hs
def Tryz.lays103_ren : Go.Shelf.Ren := ⟨fun | 103 => 102 | 210 => 161 | 206 => 94 | n => n, fun | 9 => 9 | 4 => 4 | 24 => 198 | 3 => 3 | n => n, fun | n => n⟩
theorem Tryz.lays103 : Go.Proofs.Lays.n103 Tryz.prog Tryz.lays103_ren := {
  mixed := by kernel_rfl
  f103 := Tryz.func102.trans (congrArg some (by kernel_rfl))
  f206 := Tryz.func94.trans (congrArg some (by kernel_rfl))
  f210 := Tryz.func161.trans (congrArg some (by kernel_rfl))
  t3 := Tryz.underlying3
  a3 := Tryz.isAgg3
  z3 := Tryz.sizeOf3
  v3 := Tryz.zeroValue3
  t4 := Tryz.underlying4
  a4 := Tryz.isAgg4
  z4 := Tryz.sizeOf4
  v4 := Tryz.zeroValue4
  t9 := Tryz.underlying9
  a9 := Tryz.isAgg9
  z9 := Tryz.sizeOf9
  v9 := Tryz.zeroValue9
  t24 := Tryz.underlying198
  a24 := Tryz.isAgg198
  z24 := Tryz.sizeOf198
  v24 := Tryz.zeroValue198 }
open Go.RowKit in
theorem Tryz.strings_CutPrefix (s p : ByteArray) (w : World) :
    Calls Tryz.prog 102 #[.string s, .string p] w fun e w' => e = .returned (.tuple #[.string ⟨(Lib.trimPrefix s.data.toList p.data.toList).toArray⟩, .bool (Lib.hasPrefix s.data.toList p.data.toList)]) ∧ w' = w := Any.strings_CutPrefix Tryz.lays103 s p w
def Tryz.lays212_ren : Go.Shelf.Ren := ⟨fun | 212 => 41 | 263 => 92 | 264 => 93 | n => n, fun | 46 => 105 | 51 => 186 | 146 => 187 | 53 => 39 | 148 => 189 | n => n, fun | n => n⟩
theorem Tryz.lays212 : Go.Proofs.Lays.n212 Tryz.prog Tryz.lays212_ren := {
  mixed := by kernel_rfl
  f212 := Tryz.func41.trans (congrArg some (by kernel_rfl))
  f263 := Tryz.func92.trans (congrArg some (by kernel_rfl))
  f264 := Tryz.func93.trans (congrArg some (by kernel_rfl))
  t46 := Tryz.underlying105
  a46 := Tryz.isAgg105
  z46 := Tryz.sizeOf105
  v46 := Tryz.zeroValue105
  t51 := Tryz.underlying186
  a51 := Tryz.isAgg186
  z51 := Tryz.sizeOf186
  v51 := Tryz.zeroValue186
  t53 := Tryz.underlying39
  a53 := Tryz.isAgg39
  z53 := Tryz.sizeOf39
  v53 := Tryz.zeroValue39
  t146 := Tryz.underlying187
  a146 := Tryz.isAgg187
  z146 := Tryz.sizeOf187
  v146 := Tryz.zeroValue187
  t148 := Tryz.underlying189
  a148 := Tryz.isAgg189
  z148 := Tryz.sizeOf189
  v148 := Tryz.zeroValue189 }
open Go.RowKit Go.Lib in
theorem Tryz.bits_Mul (x y : Nat) (hx : x < 18446744073709551616) (hy : y < 18446744073709551616) (w : World) :
    Calls Tryz.prog 41 #[.int .u64 x, .int .u64 y] w fun e w' => e = .returned (.tuple #[.int .u64 ((x * y / 18446744073709551616 : Nat) : Int), .int .u64 ((x * y % 18446744073709551616 : Nat) : Int)]) ∧ w' = w := Any.bits_Mul Tryz.lays212 x y hx hy w
def Tryz.lays105_ren : Go.Shelf.Ren := ⟨fun | 105 => 16 | 212 => 41 | 99 => 42 | 165 => 43 | 166 => 44 | 170 => 45 | 169 => 46 | 263 => 92 | 264 => 93 | 206 => 94 | 240 => 95 | 241 => 96 | 276 => 153 | 277 => 154 | n => n, fun | 9 => 9 | 3 => 3 | 4 => 4 | 20 => 20 | 0 => 0 | 46 => 105 | 109 => 106 | 5 => 5 | 72 => 111 | 76 => 115 | 51 => 186 | 146 => 187 | 53 => 39 | 148 => 189 | 70 => 109 | 37 => 74 | 75 => 114 | 127 => 191 | 164 => 251 | 80 => 103 | n => n, fun | n => n⟩
theorem Tryz.lays105 : Go.Proofs.Lays.n105 Tryz.prog Tryz.lays105_ren := {
  mixed := by kernel_rfl
  f99 := Tryz.func42.trans (congrArg some (by kernel_rfl))
  f105 := Tryz.func16.trans (congrArg some (by kernel_rfl))
  f165 := Tryz.func43.trans (congrArg some (by kernel_rfl))
  f166 := Tryz.func44.trans (congrArg some (by kernel_rfl))
  f169 := Tryz.func46.trans (congrArg some (by kernel_rfl))
  f170 := Tryz.func45.trans (congrArg some (by kernel_rfl))
  f206 := Tryz.func94.trans (congrArg some (by kernel_rfl))
  f212 := Tryz.func41.trans (congrArg some (by kernel_rfl))
  f240 := Tryz.func95.trans (congrArg some (by kernel_rfl))
  f241 := Tryz.func96.trans (congrArg some (by kernel_rfl))
  f263 := Tryz.func92.trans (congrArg some (by kernel_rfl))
  f264 := Tryz.func93.trans (congrArg some (by kernel_rfl))
  f276 := Tryz.func153.trans (congrArg some (by kernel_rfl))
  f277 := Tryz.func154.trans (congrArg some (by kernel_rfl))
  t0 := Tryz.underlying0
  a0 := Tryz.isAgg0
  z0 := Tryz.sizeOf0
  v0 := Tryz.zeroValue0
  t3 := Tryz.underlying3
  a3 := Tryz.isAgg3
  z3 := Tryz.sizeOf3
  v3 := Tryz.zeroValue3
  t4 := Tryz.underlying4
  a4 := Tryz.isAgg4
  z4 := Tryz.sizeOf4
  v4 := Tryz.zeroValue4
  t5 := Tryz.underlying5
  a5 := Tryz.isAgg5
  z5 := Tryz.sizeOf5
  v5 := Tryz.zeroValue5
  t9 := Tryz.underlying9
  a9 := Tryz.isAgg9
  z9 := Tryz.sizeOf9
  v9 := Tryz.zeroValue9
  t20 := Tryz.underlying20
  a20 := Tryz.isAgg20
  z20 := Tryz.sizeOf20
  v20 := Tryz.zeroValue20
  t37 := Tryz.underlying74
  a37 := Tryz.isAgg74
  z37 := Tryz.sizeOf74
  v37 := Tryz.zeroValue74
  t46 := Tryz.underlying105
  a46 := Tryz.isAgg105
  z46 := Tryz.sizeOf105
  v46 := Tryz.zeroValue105
  t51 := Tryz.underlying186
  a51 := Tryz.isAgg186
  z51 := Tryz.sizeOf186
  v51 := Tryz.zeroValue186
  t53 := Tryz.underlying39
  a53 := Tryz.isAgg39
  z53 := Tryz.sizeOf39
  v53 := Tryz.zeroValue39
  t70 := Tryz.underlying109
  a70 := Tryz.isAgg109
  z70 := Tryz.sizeOf109
  v70 := Tryz.zeroValue109
  t72 := Tryz.underlying111
  a72 := Tryz.isAgg111
  z72 := Tryz.sizeOf111
  v72 := Tryz.zeroValue111
  t75 := Tryz.underlying114
  a75 := Tryz.isAgg114
  z75 := Tryz.sizeOf114
  v75 := Tryz.zeroValue114
  t76 := Tryz.underlying115
  a76 := Tryz.isAgg115
  z76 := Tryz.sizeOf115
  v76 := Tryz.zeroValue115
  t109 := Tryz.underlying106
  a109 := Tryz.isAgg106
  z109 := Tryz.sizeOf106
  v109 := Tryz.zeroValue106
  t127 := Tryz.underlying191
  a127 := Tryz.isAgg191
  z127 := Tryz.sizeOf191
  v127 := Tryz.zeroValue191
  t146 := Tryz.underlying187
  a146 := Tryz.isAgg187
  z146 := Tryz.sizeOf187
  v146 := Tryz.zeroValue187
  t148 := Tryz.underlying189
  a148 := Tryz.isAgg189
  z148 := Tryz.sizeOf189
  v148 := Tryz.zeroValue189
  t164 := Tryz.underlying251
  a164 := Tryz.isAgg251
  z164 := Tryz.sizeOf251
  v164 := Tryz.zeroValue251 }
theorem Tryz.Builder_Extra_105 : Builder.Extra Tryz.prog Tryz.lays105_ren := {
  sizeBuilder := by kernel_rfl
  liesBuilder := by kernel_rfl
  t5 := Tryz.underlying5
  a5 := Tryz.isAgg5
  z5 := Tryz.sizeOf5
  v5 := Tryz.zeroValue5
  infoByte := by kernel_rfl
  cellsByte := by kernel_rfl
  sizeByte := by kernel_rfl
  neB5 := by decide }
open Go.RowKit Go.Lib in
theorem Tryz.strings_Repeat (s : ByteArray) (c : Nat) (w : World) (hc : c ≤ 9223372036854775807) (hlen : s.size * c ≤ 140737488355328) :
    Calls Tryz.prog 16 #[.string s, .int .i64 c] w fun e w' => e = .returned (.string ⟨(Lib.repeatL s.data.toList c).toArray⟩) ∧ Below w.heap.size w w' := Any.strings_Repeat Tryz.lays105 Tryz.Builder_Extra_105 s c w hc hlen
end Go.Proofs
namespace Go.Proofs.YtkkleedpakcfgaaGreatDoor.Abs
open Go Go.RowKit
theorem cutPrefix_spec (s p : ByteArray) (m : Mem) :
    Spec Tryz.prog 102 [.string s, .string p] m fun u M => u = .tuple #[.string (str (Lib.trimPrefix s.data.toList p.data.toList)), .bool (Lib.hasPrefix s.data.toList p.data.toList)] ∧ M = m :=
  Spec.of_below rfl fun ι w ys hy hr => by
    rw [flats_eq (by simp [flat]) hy]
    refine (Tryz.strings_CutPrefix s p w).mono ?_
    rintro e w' ⟨rfl, rfl⟩
    exact ⟨rfl, Below.refl _ _⟩
end Go.Proofs.YtkkleedpakcfgaaGreatDoor.Abs
namespace Go.Proofs.YtkkleedpakcfgaaGreatDoor.Abs
open Go Go.RowKit
theorem trim_spec (s : ByteArray) (c : UInt8) (hc : c.toNat < 128) (hs : s.size ≤ 9223372036854775807) (m : Mem) :
    Spec Tryz.prog 103 [.string s, .string (str [c])] m fun u M => u = .string (str (Lib.trimB s.data.toList c)) ∧ M = m :=
  Spec.of_below rfl fun ι w ys hy hr => by
    rw [flats_eq (by simp [flat]) hy]
    refine (Tryz.strings_Trim_one s c hc w hs).mono ?_
    rintro e w' ⟨rfl, rfl | rfl⟩
    · exact ⟨rfl, Below.refl _ _⟩
    · exact ⟨rfl, rfl, rfl, rfl, Nat.le_refl _, fun _ _ => rfl⟩
theorem repeat_spec (s : ByteArray) (c : Nat) (hc : c ≤ 9223372036854775807) (hlen : s.size * c ≤ 140737488355328) (m : Mem) :
    Spec Tryz.prog 16 [.string s, .int .i64 c] m fun u M => u = .string (str (Lib.repeatL s.data.toList c)) ∧ M = m :=
  Spec.of_below rfl fun ι w ys hy hr => by
    rw [flats_eq (by simp [flat]) hy]
    refine (Tryz.strings_Repeat s c w hc hlen).mono ?_
    rintro e w' ⟨rfl, hb⟩
    exact ⟨rfl, hb⟩
theorem mul_spec (x y : Nat) (hx : x < 18446744073709551616) (hy : y < 18446744073709551616) (m : Mem) :
    Spec Tryz.prog 41 [.int .u64 x, .int .u64 y] m fun u M => u = .tuple #[.int .u64 ((x * y / 18446744073709551616 : Nat) : Int), .int .u64 ((x * y % 18446744073709551616 : Nat) : Int)] ∧ M = m :=
  Spec.of_below rfl fun ι w ys hys hr => by
    rw [flats_eq (by simp [flat]) hys]
    refine (Tryz.bits_Mul x y hx hy w).mono ?_
    rintro e w' ⟨rfl, rfl⟩
    exact ⟨rfl, Below.refl _ _⟩
end Go.Proofs.YtkkleedpakcfgaaGreatDoor.Abs
namespace Go.Proofs.YtkkleedpakcfgaaGreatDoor
open Go.RowKit Abs
noncomputable def cutG (ys : List Value) : Option Value := match ys with
  | [.string s, .string p] => some (.tuple #[.string (str (Lib.trimPrefix s.data.toList p.data.toList)), .bool (Lib.hasPrefix s.data.toList p.data.toList)])
  | _ => none
theorem cutG_known (ys : List Value) (v : Value) (h : cutG ys = some v) : Known Tryz.prog 102 ys v := by
  unfold cutG at h
  split at h <;> first | (cases h; done) | skip
  cases h
  exact fun m => cutPrefix_spec _ _ m
noncomputable def oneB (s : ByteArray) : Option UInt8 := match s with
  | ⟨⟨[c]⟩⟩ => some c
  | _ => none
theorem oneB_spec {s : ByteArray} {c : UInt8} (h : oneB s = some c) : s = str [c] := by
  unfold oneB at h
  split at h <;> first | (cases h; done) | skip
  cases h; rfl
noncomputable def trimG (ys : List Value) : Option Value := match ys with
  | [.string s, .string t] => match oneB t with
    | some c => bif Nat.blt c.toNat 128 then bif Nat.ble s.size 1000000 then some (.string (str (Lib.trimB s.data.toList c))) else none else none
    | none => none
  | _ => none
theorem trimG_known (ys : List Value) (v : Value) (h : trimG ys = some v) : Known Tryz.prog 103 ys v := by
  unfold trimG at h
  split at h <;> first | (cases h; done) | skip
  rename_i s t
  split at h <;> first | (cases h; done) | skip
  rename_i c hc
  cases h1 : Nat.blt c.toNat 128 <;> rw [h1] at h <;> first | (cases h; done) | skip
  cases h2 : Nat.ble s.size 1000000 <;> rw [h2] at h <;> first | (cases h; done) | skip
  cases h
  have h1 : c.toNat < 128 := Nat.le_of_ble_eq_true h1
  have h2 := Nat.le_of_ble_eq_true h2
  rw [oneB_spec hc]
  exact fun m => trim_spec s c h1 (by omega) m
noncomputable def repG (ys : List Value) : Option Value := match ys with
  | [.string a, .int .i64 (.ofNat c)] => bif Nat.ble c 1000 then bif Nat.ble a.size 1000 then some (.string (str (Lib.repeatL a.data.toList c))) else none else none
  | _ => none
theorem repG_known (ys : List Value) (v : Value) (h : repG ys = some v) : Known Tryz.prog 16 ys v := by
  unfold repG at h
  split at h <;> first | (cases h; done) | skip
  rename_i a c
  cases h1 : Nat.ble c 1000 <;> rw [h1] at h <;> first | (cases h; done) | skip
  cases h2 : Nat.ble a.size 1000 <;> rw [h2] at h <;> first | (cases h; done) | skip
  cases h
  have h1 := Nat.le_of_ble_eq_true h1
  have h2 := Nat.le_of_ble_eq_true h2
  have h3 := Nat.mul_le_mul h2 h1
  exact fun m => repeat_spec a c (by omega) (by omega) m
noncomputable def libT (T : Caller) : Caller := flatT 102 cutG (flatT 103 trimG (flatT 16 repG T))
theorem libT_good {T : Caller} (hT : Abs.Good Tryz.prog T) : Abs.Good Tryz.prog (libT T) := flatT_good (flatT_good (flatT_good hT repG_known) trimG_known) cutG_known
end Go.Proofs.YtkkleedpakcfgaaGreatDoor
