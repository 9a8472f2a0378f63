/-
  The abstract machine over any memory and a few local blocks behind it; the local ones get new names at each joint.
  The abstract machine walked with unknowns: loops over some slots, memory that grows, facts of the program's types.
  Data that came in, read off the abstract memory; and slices there as the contracts of worlds want them.
  Walks over any memory with local blocks: what the steps come to.
  Walks in a memory that is written: no base that stays; what is known are blocks by number.
  Appends to local blocks.
  DERIVED: THE SHELF's CONTRACTS AT THIS DUMP, IN PLAIN WORDS (tools/lay-plain.mjs out of 'TryzShelf.lean', which tools/lay-shelf.mjs wrote): THE SAME DECLARATIONS UNDER THE SAME NAMES: 'import', 'namespace', 'open', 'def', 'theorem' AND NOTHING ELSE: no command of the shelf's: FOR A HAND-IN. Each laying: the table of numbers ('.._ren') and one theorem, a field a fact of the dump's own or the kernel's comparison; each contract: ONE APPLICATION.
  The library's contracts (of worlds), for the abstract machine: how they are turned; Itoa.
  The library's contracts that disks ask for, for the abstract machine.
-/
import Derived.Test.YtmnebimijlnlkaaGreatDoorPart06
import Derived.Test.YtmnebimijlnlkaaGreatDoorPart01
import Derived.Shelf.Strings.Builder1
import Derived.Shelf.Strings.Builder2
import Derived.Shelf.Strings.Trim
import Derived.Shelf.Small.Utf8
import Derived.Shelf.Small.Strs
import Derived.Shelf.Small.Wraps
import Derived.Shelf.Strings.BuilderF
import Derived.Shelf.Strings.BuilderK
import Derived.Shelf.Strings.Builder2Cap
import Derived.Shelf.Strconv.Itoa0
import Derived.Shelf.Strconv.Itoa1
import Derived.Shelf.LaysM
import Derived.Shelf.Strconv.Itoa2
import Derived.Shelf.Strconv.Itoa3
import Derived.Shelf.Strings.Search1
import Derived.Shelf.Strings.Prefix
import Derived.Shelf.Strings.Runes
import Derived.Shelf.Strings.AsciiSet
import Derived.Shelf.Bits.Mul64
import Derived.Shelf.Strings.Repeat
import Derived.Shelf.Unicode.DecodeSlow
import Derived.Shelf.Strings.BuilderCap
import Derived.Test.YtmnebimijlnlkaaGreatDoorProg
import Derived.Lib.TrimByte
import Derived.Lib.Strings
set_option linter.unusedSimpArgs false
set_option linter.unusedVariables false
set_option linter.unusedSectionVars false
set_option linter.unnecessarySimpa false
set_option linter.defProp false
namespace Go.Proofs.YtmnebimijlnlkaaGreatDoor.Abs
open Go Go.RowKit
def ext (b : Mem) (l : List (Option (Option Blk))) : Mem := ⟨b.blks ++ l⟩
def Within (m : Mem) : Prop := ∀ b x, m.get b = some x → ClBlk m.Has x
theorem ext_size (b : Mem) (l : List (Option (Option Blk))) : (ext b l).size = b.size + l.length := by simp [ext, Mem.size]
theorem ext_at (b : Mem) (l : List (Option (Option Blk))) (i : Nat) : (ext b l).blks[b.size + i]? = l[i]? := by
  unfold ext Mem.size
  rw [List.getElem?_append, if_neg (by omega)]
  congr 1; omega
theorem ext_low {b : Mem} (l : List (Option (Option Blk))) {i : Nat} (h : i < b.size) : (ext b l).blks[i]? = b.blks[i]? := by
  unfold ext
  unfold Mem.size at h
  rw [List.getElem?_append, if_pos h]
theorem ext_get_low {b : Mem} (l : List (Option (Option Blk))) {i : Nat} (h : i < b.size) : (ext b l).get i = b.get i := by
  unfold Mem.get
  rw [ext_low l h]
theorem ext_get_old {b : Mem} (l : List (Option (Option Blk))) {i : Nat} {x : Blk} (h : b.get i = some x) : (ext b l).get i = some x := by rw [ext_get_low l (Mem.get_lt h)]; exact h
theorem ext_get (b : Mem) (l : List (Option (Option Blk))) (i : Nat) : (ext b l).get (b.size + i) = match nth l i with | some o => o | none => none := by
  unfold Mem.get nth
  rw [ext_at]
  cases l[i]? with
  | none => rfl
  | some o => cases o <;> rfl
theorem ext_push (b : Mem) (l : List (Option (Option Blk))) (x : Blk) : (ext b l).push x = ext b (l ++ [some (some x)]) := by unfold ext Mem.push; simp
theorem ext_set (b : Mem) (l : List (Option (Option Blk))) (i : Nat) (o : Option Blk) : (ext b l).set (b.size + i) o = ext b (l.set i (some o)) := by
  unfold ext Mem.set Mem.size
  rw [List.set_append_right _ _ (by omega)]
  congr 3; omega
section
variable {P : Program} {n k₀ : Nat} {f f' : AL} {b : Mem} {l : List (Option (Option Blk))}
variable {Q : Exit → AL → Mem → Prop}
theorem Rel.within {m : Mem} {ι : Nat → Loc} {w : World} (h : Rel ι m w) : Within m := h.clBlk
end
end Go.Proofs.YtmnebimijlnlkaaGreatDoor.Abs
namespace Go.Proofs.YtmnebimijlnlkaaGreatDoor.Abs
open Go Go.RowKit
def AL.keep (f : AL) : List Nat → AL
  | [] => []
  | t :: r => match AL.get f t with
    | some v => (t, v) :: AL.keep f r
    | none => AL.keep f r
theorem AL.keep_cons (f : AL) (t : Nat) (r : List Nat) (v : Value) (h : AL.get f t = some v) : AL.keep f (t :: r) = (t, v) :: AL.keep f r := by
  unfold AL.keep
  rw [h]
  cases r <;> rfl
section
variable {P : Program} {n : Nat} {Q : Exit → AL → Mem → Prop} {f : AL} {m : Mem}
end
def Grows (m m' : Mem) : Prop := m.size ≤ m'.size ∧ ∀ b x, m.get b = some x → m'.get b = some x
theorem Grows.refl (m : Mem) : Grows m m := ⟨Nat.le_refl _, fun _ _ h => h⟩
theorem Grows.trans {m m' m'' : Mem} (h : Grows m m') (k : Grows m' m'') : Grows m m'' := ⟨Nat.le_trans h.1 k.1, fun b x hb => k.2 b x (h.2 b x hb)⟩
theorem Grows.push {m m' : Mem} (h : Grows m m') (x : Blk) : Grows m (m'.push x) :=
  ⟨by simp only [Mem.size_push]; have := h.1; omega, fun b y hb => by
    have h1 := h.2 b y hb
    rw [Mem.get_push_old (Mem.get_lt h1)]; exact h1⟩
theorem Grows.set {m m' : Mem} (h : Grows m m') {g : Nat} (hg : m.size ≤ g) (o : Option Blk) : Grows m (m'.set g o) :=
  ⟨by simp only [Mem.size_set]; exact h.1, fun b y hb => by
    have := Mem.get_lt hb
    rw [Mem.get_set_ne (by omega)]; exact h.2 b y hb⟩
theorem hmix : Tryz.prog.follows .mixedOrders = true := by kernel_rfl
theorem inf_int : Tryz.prog.info? 3 = some Tryz.t3 := by kernel_rfl
theorem inf_u8 : Tryz.prog.info? 5 = some Tryz.t5 := by kernel_rfl
theorem inf_str : Tryz.prog.info? 9 = some Tryz.t9 := by kernel_rfl
theorem int_size : Tryz.t3.size = 1 := rfl
theorem int_zero : Tryz.t3.zero = some (.int .i64 0) := rfl
theorem u8_size : Tryz.t5.size = 1 := rfl
theorem u8_zero : Tryz.t5.zero = some (.int .u8 0) := rfl
theorem str_size : Tryz.t9.size = 1 := rfl
theorem row_int (k : IntKind) : (TypeDesc.int k).isRow = false := rfl
theorem row_str : TypeDesc.string.isRow = false := rfl
theorem new_one {P : Program} {t e : TypeId} {i : TypeInfo} {z : Value} (hu : P.underlying t = some (.slice e)) (hi : P.info? e = some i) (hz : i.zero = some z) (hs : i.size = 1) (hf : flat 3 z = true) (hzc : z.cells.toList = [z]) (hz1 : oneAll [z] = true)
    (v : Value) (hv : v.cells.toList = [v]) (h1 : oneAll [v] = true) : nBuildSlice P t 1 [(0, v)] = some (.cells false 1 [v]) := by
  unfold nBuildSlice
  simp only [hu, hi, hz, hs, hf, hzc, hz1, hv, h1]
  simp [aFill, aZeros, hv, setL, h1]
theorem app_one {P : Program} {t e : TypeId} {i : TypeInfo} {z : Value} (hu : P.underlying t = some (.slice e)) (hi : P.info? e = some i) (hz : i.zero = some z) (hs : i.size = 1) (hzc : z.cells.toList.length = 1)
    (m : Mem) (v : Value) {g n : Nat} {xs : List Value} (hg : m.get g = some (.cells false 1 xs)) (hn : n = xs.length) (hb : (n + 1) * i.bytes ≤ 140737488355328) (hb2 : n + 1 ≤ 140737488355328) :
    aAppend P (m.push (.cells false 1 [v])) t t (.slice (some ⟨g, 0, none⟩) n n) (.slice (some ⟨m.size, 0, none⟩) 1 1) =
      some (.slice (some ⟨m.size + 1, 0, none⟩) (n + 1) (n + 1), ((m.push (.cells false 1 [v])).set g none).push (.cells false 1 (xs ++ [v]))) := by
  subst hn
  have h1 : (m.push (.cells false 1 [v])).get g = some (.cells false 1 xs) := by rw [Mem.get_push_old (Mem.get_lt hg)]; exact hg
  unfold aAppend aSrc
  simp only [hu, hi, hz, hs, hzc, if_true, Mem.get_push_new, h1]
  simp [hb, hb2]
theorem app_nil {P : Program} {t e : TypeId} {i : TypeInfo} {z : Value} (hu : P.underlying t = some (.slice e)) (hi : P.info? e = some i) (hz : i.zero = some z) (hs : i.size = 1) (hzc : z.cells.toList.length = 1)
    (m : Mem) (v : Value) (hb : i.bytes ≤ 140737488355328) :
    aAppend P (m.push (.cells false 1 [v])) t t (.slice none 0 0) (.slice (some ⟨m.size, 0, none⟩) 1 1) =
      some (.slice (some ⟨m.size + 1, 0, none⟩) 1 1, (m.push (.cells false 1 [v])).push (.cells false 1 [v])) := by
  unfold aAppend aSrc
  simp only [hu, hi, hz, hs, hzc, if_true, Mem.get_push_new]
  simp [hb]
def Sl (m : Mem) (v : Value) (xs : List Value) : Prop := (v = .slice none 0 0 ∧ xs = []) ∨ ∃ g, v = .slice (some ⟨g, 0, none⟩) xs.length xs.length ∧ m.get g = some (.cells false 1 xs)
theorem Sl.app {P : Program} {t e : TypeId} {i : TypeInfo} {z : Value} (hu : P.underlying t = some (.slice e)) (hi : P.info? e = some i) (hz : i.zero = some z) (hs : i.size = 1) (hzc : z.cells.toList.length = 1)
    {m₀ m : Mem} {s : Value} {xs : List Value} (h : Sl m s xs) (hgr : Grows m₀ m) (hnew : ∀ g l c, s = .slice (some ⟨g, 0, none⟩) l c → m₀.size ≤ g) (v : Value) (hb : (xs.length + 1) * i.bytes ≤ 140737488355328) (hb2 : xs.length + 1 ≤ 140737488355328) :
    ∃ s' m', aAppend P (m.push (.cells false 1 [v])) t t s (.slice (some ⟨m.size, 0, none⟩) 1 1) = some (s', m') ∧ Sl m' s' (xs ++ [v]) ∧ Grows m₀ m' ∧ (∀ g l c, s' = .slice (some ⟨g, 0, none⟩) l c → m₀.size ≤ g) := by
  rcases h with ⟨rfl, rfl⟩ | ⟨g, rfl, hg⟩
  · refine ⟨_, _, app_nil hu hi hz hs hzc m v (by simpa using hb), .inr ⟨m.size + 1, by simp, ?_⟩, (hgr.push _).push _, fun g l c e => ?_⟩
    · have := Mem.get_push_new (m.push (.cells false 1 [v])) (.cells false 1 [v])
      rw [Mem.size_push] at this
      simpa using this
    · cases e; have := hgr.1; omega
  · refine ⟨_, _, app_one hu hi hz hs hzc m v hg rfl hb hb2, .inr ⟨m.size + 1, by simp, ?_⟩, ((hgr.push _).set (hnew g _ _ rfl) _).push _, fun g l c e => ?_⟩
    · have := Mem.get_push_new ((m.push (.cells false 1 [v])).set g none) (.cells false 1 (xs ++ [v]))
      rw [Mem.size_set, Mem.size_push] at this
      exact this
    · cases e; have := hgr.1; omega
theorem Sl.at {m : Mem} {v : Value} {xs : List Value} (h : Sl m v xs) (hn : 0 < xs.length) : ∃ g, v = .slice (some ⟨g, 0, none⟩) xs.length xs.length ∧ m.get g = some (.cells false 1 xs) := by
  rcases h with ⟨_, rfl⟩ | h
  · simp at hn
  · exact h
theorem Sl.block {m : Mem} {g n : Nat} {xs : List Value} (hn : n = xs.length) (h : m.get g = some (.cells false 1 xs)) : Sl m (.slice (some ⟨g, 0, none⟩) n n) xs := .inr ⟨g, by rw [hn], h⟩
theorem sConv_slice (P : Program) (get : Nat → Option Blk) (s d : TypeId) (a : Option Addr) (l c : Nat) : sConv P get s d (some (.slice a l c)) = gToString P get s d (.slice a l c) := rfl
theorem wr {x : Int} (h0 : 0 ≤ x) (h1 : x ≤ 4611686018427387904) : IntKind.i64.wrap x = x := by
  obtain ⟨n, rfl⟩ := Int.eq_ofNat_of_zero_le h0
  exact (idx (n : Int) n rfl (by omega)).1
theorem aStr_add (a b : ByteArray) : aStr .add a b = if bsize a + bsize b ≤ 4611686018427387904 then some (.string (bcat a b)) else none := rfl
theorem aStr_eql (a b : ByteArray) : aStr .eql a b = some (.bool (beqB a b)) := rfl
theorem aStr_neq (a b : ByteArray) : aStr .neq a b = some (.bool (!beqB a b)) := rfl
theorem aInt_add (k : IntKind) (a b : Int) : aInt .add k a b = some (.int k (k.wrap (a + b))) := rfl
theorem aInt_sub (k : IntKind) (a b : Int) : aInt .sub k a b = some (.int k (k.wrap (a - b))) := rfl
theorem aInt_mul (k : IntKind) (a b : Int) : aInt .mul k a b = some (.int k (k.wrap (a * b))) := rfl
theorem aInt_quo (k : IntKind) (a b : Int) : aInt .quo k a b = if b = 0 then none else some (.int k (k.wrap (a.tdiv b))) := rfl
theorem aInt_rem (k : IntKind) (a b : Int) : aInt .rem k a b = if b = 0 then none else some (.int k (a.tmod b)) := rfl
theorem aInt_and (k : IntKind) (a b : Int) : aInt .and k a b = some (.int k (bits .and k a b)) := rfl
theorem aInt_or (k : IntKind) (a b : Int) : aInt .or k a b = some (.int k (bits .or k a b)) := rfl
theorem aInt_xor (k : IntKind) (a b : Int) : aInt .xor k a b = some (.int k (bits .xor k a b)) := rfl
theorem aInt_eql (k : IntKind) (a b : Int) : aInt .eql k a b = some (.bool (a == b)) := rfl
theorem aInt_neq (k : IntKind) (a b : Int) : aInt .neq k a b = some (.bool (a != b)) := rfl
theorem aInt_lss (k : IntKind) (a b : Int) : aInt .lss k a b = some (.bool (decide (a < b))) := rfl
theorem aInt_leq (k : IntKind) (a b : Int) : aInt .leq k a b = some (.bool (decide (a ≤ b))) := rfl
theorem aInt_gtr (k : IntKind) (a b : Int) : aInt .gtr k a b = some (.bool (decide (a > b))) := rfl
theorem aInt_geq (k : IntKind) (a b : Int) : aInt .geq k a b = some (.bool (decide (a ≥ b))) := rfl
theorem new_int (x : Int) : nBuildSlice Tryz.prog 22 1 [(0, .int .i64 x)] = some (.cells false 1 [.int .i64 x]) :=
  new_one Tryz.underlying22 inf_int int_zero int_size rfl rfl rfl _ rfl rfl
theorem new_u8 (x : Int) : nBuildSlice Tryz.prog 49 1 [(0, .int .u8 x)] = some (.cells false 1 [.int .u8 x]) :=
  new_one Tryz.underlying49 inf_u8 u8_zero u8_size rfl rfl rfl _ rfl rfl
def zS := And.intro (And.intro (And.intro (And.intro (And.intro (And.intro (And.intro (@alOf.eq_1) (And.intro @alOf.eq_2 @sOps.eq_1)) (And.intro (@sOpsB.eq_1) (And.intro @sOpsB.eq_2 @sOp.eq_1))) (And.intro (And.intro (@sOne.eq_1) (And.intro @sHOne.eq_1 @sHOp.eq_1)) (And.intro (@sGuard.eq_1) (And.intro @sWant.eq_1 @sFun.eq_1)))) (And.intro (And.intro (And.intro (@sGuarded.eq_1) (And.intro @sGuarded.eq_2 @sGuarded.eq_3)) (And.intro (@sGuardedV.eq_1) (And.intro @sGuardedV.eq_2 @sGuardedV.eq_3))) (And.intro (And.intro (@isFn.eq_1) (And.intro @isFn.eq_2 @isFn.eq_3)) (And.intro (@isVal.eq_1) (And.intro @isVal.eq_2 @kind.eq_1))))) (And.intro (And.intro (And.intro (And.intro (@kind.eq_2) (And.intro @kind.eq_3 @kind.eq_4)) (And.intro (@kind.eq_5) (And.intro @kind.eq_6 @kind.eq_7))) (And.intro (And.intro (@kind.eq_8) (And.intro @kind.eq_9 @kind.eq_10)) (And.intro (@kind.eq_11) (And.intro @kind.eq_12 @kindB.eq_1)))) (And.intro (And.intro (And.intro (@kindB.eq_2) (And.intro @kindB.eq_3 @kindB.eq_4)) (And.intro (@kindC.eq_1) (And.intro @kindC.eq_2 @kindT.eq_1))) (And.intro (And.intro (@kindT.eq_2) (And.intro @withV_some @withV_ite)) (And.intro (And.intro @sVal.eq_1 @sVal.eq_2) (And.intro @sVal.eq_3 @sVal.eq_4)))))) (And.intro (And.intro (And.intro (And.intro (And.intro (@sVal.eq_5) (And.intro @sVal.eq_6 @sVal.eq_7)) (And.intro (@sVal.eq_8) (And.intro @sVal.eq_9 @sVal.eq_10))) (And.intro (And.intro (@sVal.eq_11) (And.intro @sVal.eq_12 @sVal.eq_13)) (And.intro (@sVal.eq_14) (And.intro @sVal.eq_15 @sVal.eq_16)))) (And.intro (And.intro (And.intro (@sVal.eq_17) (And.intro @sVal.eq_18 @sVal.eq_19)) (And.intro (@sVal.eq_20) (And.intro @sVal.eq_21 @sNew.eq_1))) (And.intro (And.intro (@sNew.eq_2) (And.intro @sNew.eq_3 @sNew.eq_4)) (And.intro (And.intro @sNew.eq_5 @sNew.eq_6) (And.intro @sNew.eq_7 @sMem.eq_1))))) (And.intro (And.intro (And.intro (And.intro (@sMem.eq_2) (And.intro @sMem.eq_3 @sMem.eq_4)) (And.intro (@sMem.eq_5) (And.intro @sMem.eq_6 @sAny.eq_1))) (And.intro (And.intro (@sAny.eq_2) (And.intro @sAny.eq_3 @sLookup.eq_1)) (And.intro (@sLookup.eq_2) (And.intro @sLookup.eq_3 @sEntry.eq_1)))) (And.intro (And.intro (And.intro (@sEntry.eq_2) (And.intro @sArgs.eq_1 @sArgs.eq_2)) (And.intro (@sParts.eq_1) (And.intro @sParts.eq_2 @sBin.eq_1))) (And.intro (And.intro (@sBin.eq_2) (And.intro @sConv.eq_1 @sConv.eq_2)) (And.intro (And.intro @sConv.eq_3 @sConv.eq_4) (And.intro @sConv_slice @vSlice.eq_1))))))) (And.intro (And.intro (And.intro (And.intro (And.intro (And.intro (@vSlice.eq_2) (And.intro @vSlice.eq_3 @vSlice.eq_4)) (And.intro (@vSlice.eq_5) (And.intro @fOpt.eq_1 @fOpt.eq_2))) (And.intro (And.intro (@vPick.eq_1) (And.intro @vPick.eq_2 @vPick.eq_3)) (And.intro (@vLoad.eq_1) (And.intro @vLoad.eq_2 @vIndexAddr.eq_1)))) (And.intro (And.intro (And.intro (@vIndexAddr.eq_2) (And.intro @vIndexAddr.eq_3 @vIndex.eq_1)) (And.intro (@vIndex.eq_2) (And.intro @vIndex.eq_3 @vExtract.eq_1))) (And.intro (And.intro (@vExtract.eq_2) (And.intro @vUn.eq_1 @vUn.eq_2)) (And.intro (@sCallee.eq_1) (And.intro @sCallee.eq_2 @AL.look.eq_1))))) (And.intro (And.intro (And.intro (And.intro (@AL.look.eq_2) (And.intro @AL.look.eq_3 @AL.look.eq_4)) (And.intro (@AL.get.eq_1) (And.intro @AL.get.eq_2 @AL.keep_cons))) (And.intro (And.intro (@AL.keep.eq_1) (And.intro @AL.keep.eq_2 @flat.eq_1)) (And.intro (@flat.eq_2) (And.intro @flat.eq_3 @flat.eq_4)))) (And.intro (And.intro (And.intro (@flat.eq_5) (And.intro @flat.eq_6 @flat.eq_7)) (And.intro (@flat.eq_8) (And.intro @flat.eq_9 @flat.eq_10))) (And.intro (And.intro (@flat.eq_11) (And.intro @flat.eq_12 @flat.eq_13)) (And.intro (And.intro @flat.eq_14 @flat.eq_15) (And.intro @sPut.eq_1 @sPut.eq_2)))))) (And.intro (And.intro (And.intro (And.intro (And.intro (@isC.eq_1) (And.intro @isC.eq_2 @sThen.eq_1)) (And.intro (@sThen.eq_2) (And.intro @sBlock.eq_1 @sBlock.eq_2))) (And.intro (And.intro (@sHead.eq_1) (And.intro @sHeadB.eq_1 @sHeadB.eq_2)) (And.intro (@sEnd.eq_1) (And.intro @sEnd.eq_2 @sEnd.eq_3)))) (And.intro (And.intro (And.intro (@List.take_succ_cons.{0}) (And.intro @List.take_zero.{0} @List.drop_succ_cons.{0})) (And.intro (@List.drop_zero.{0}) (And.intro @aBin.eq_1 @aBin.eq_2))) (And.intro (And.intro (@aBin.eq_3) (And.intro @aBin.eq_4 @aBin.eq_5)) (And.intro (And.intro @aBin.eq_6 @aBin.eq_7) (And.intro @aInt_add @aInt_sub))))) (And.intro (And.intro (And.intro (And.intro (@aInt_mul) (And.intro @aInt_quo @aInt_rem)) (And.intro (@aInt_and) (And.intro @aInt_or @aInt_xor))) (And.intro (And.intro (@aInt_eql) (And.intro @aInt_neq @aInt_lss)) (And.intro (@aInt_leq) (And.intro @aInt_gtr @aInt_geq)))) (And.intro (And.intro (And.intro (@aStr_add) (And.intro @aStr_eql @aStr_neq)) (And.intro (@Bool.false_eq_true) (And.intro @Bool.or_true @Bool.or_false))) (And.intro (And.intro (@Bool.true_or) (And.intro @if_true.{1} @if_false.{1})) (And.intro (And.intro @true_and @and_true) (And.intro @List.nil_append.{0} @List.append_nil.{0})))))))
end Go.Proofs.YtmnebimijlnlkaaGreatDoor.Abs
namespace Go.Proofs.YtmnebimijlnlkaaGreatDoor.Abs
open Go Go.RowKit
section
variable {P : Program} {m : Mem} {B : Nat} {t : TypeId} {cs : List Value}
theorem ARep.inv_int {k : IntKind} (hu : P.underlying t = some (.int k)) (h : ARep P m B t cs) : ∃ n, cs = [.int k n] ∧ (Lit.int k n).wf = true := by
  cases h <;> simp_all
theorem ARep.inv_string (hu : P.underlying t = some .string) (h : ARep P m B t cs) : ∃ s, cs = [.string s] ∧ s.size ≤ B := by
  cases h <;> simp_all
def Rd (m : Mem) (n : Nat) (v : Value) (k : Nat) (cells : List Value) : Prop :=
  ∃ a cap, v = .slice a k cap ∧ cells.length = k * n ∧ k ≤ cap ∧ cap ≤ maxLen ∧ (a = none → cap = 0) ∧ ∀ p, a = some p → ∃ b, p = ⟨b, 0, none⟩ ∧ (k ≠ 0 → ∃ ro, m.get b = some (.cells ro n cells))
end
theorem Rd.len {m : Mem} {n k : Nat} {v : Value} {cells : List Value} (h : Rd m n v k cells) : ∃ a cap, v = .slice a k cap := by
  obtain ⟨a, cap, rfl, _⟩ := h; exact ⟨a, cap, rfl⟩
theorem Rd.at {m : Mem} {n k cap : Nat} {a : Option Addr} {cells : List Value} (h : Rd m n (.slice a k cap) k cells) (hk : 0 < k) : ∃ b ro, a = some ⟨b, 0, none⟩ ∧ m.get b = some (.cells ro n cells) := by
  obtain ⟨a', cap', e, _, h2, _, h3, h4⟩ := h
  cases e
  cases a with
  | none => have := h3 rfl; omega
  | some p =>
    obtain ⟨b, rfl, hb⟩ := h4 p rfl
    obtain ⟨ro, hg⟩ := hb (by omega)
    exact ⟨b, ro, rfl, hg⟩
theorem flatMap_at {α : Type} (f : α → List Value) (n : Nat) : ∀ (xs : List α) (i : Nat) (x : α), (∀ x ∈ xs, (f x).length = n) → xs[i]? = some x → ((xs.flatMap f).drop (i * n)).take n = f x
  | [], i, x, _, h => by simp at h
  | y :: r, 0, x, hl, h => by
    simp at h; subst h
    rw [Nat.zero_mul, List.drop_zero, List.flatMap_cons, ← hl y (by simp), List.take_left']
    rfl
  | y :: r, i + 1, x, hl, h => by
    have := flatMap_at f n r i x (fun x hx => hl x (by simp [hx])) (by simpa using h)
    rw [List.flatMap_cons, Nat.add_mul, Nat.one_mul, List.drop_append, List.drop_eq_nil_of_le (by rw [hl y (by simp)]; omega), List.nil_append, hl y (by simp), Nat.add_sub_cancel]
    exact this
theorem flatMap_len {α : Type} (f : α → List Value) (n : Nat) : ∀ (xs : List α), (∀ x ∈ xs, (f x).length = n) → (xs.flatMap f).length = xs.length * n
  | [], _ => by simp
  | y :: r, hl => by
    rw [List.flatMap_cons, List.length_append, flatMap_len f n r (fun x hx => hl x (by simp [hx])), hl y (by simp), List.length_cons, Nat.add_mul]
    omega
theorem vrels_one {n : Nat → Prop} {ι : Nat → Loc} {a : Value} {ys : List Value} (h : VRels n ι [a] ys) : ∃ a', ys = [a'] ∧ VRel n ι a a' := by
  have hl := h.1
  match ys, hl with
  | [a'], _ => exact ⟨a', rfl, h.2 0 _ _ rfl rfl⟩
theorem vrels_two {n : Nat → Prop} {ι : Nat → Loc} {a b : Value} {ys : List Value} (h : VRels n ι [a, b] ys) : ∃ a' b', ys = [a', b'] ∧ VRel n ι a a' ∧ VRel n ι b b' := by
  have hl := h.1
  match ys, hl with
  | [a', b'], _ => exact ⟨a', b', rfl, h.2 0 _ _ rfl rfl, h.2 1 _ _ rfl rfl⟩
theorem args_one {P : Program} {m : Mem} {B : Nat} {t : TypeId} {ts : List TypeId} {vs : List Value} (h : ArgsOf P m B (t :: ts) vs) : ∃ v r, vs = v :: r ∧ ArgOf P m B t v ∧ ArgsOf P m B ts r := by
  cases h with
  | cons h hs => exact ⟨_, _, rfl, h, hs⟩
theorem args_nil {P : Program} {m : Mem} {B : Nat} {vs : List Value} (h : ArgsOf P m B [] vs) : vs = [] := by cases h; rfl
theorem arg_str {P : Program} {m : Mem} {B : Nat} {t : TypeId} {v : Value} (hu : P.underlying t = some .string) (h : ArgOf P m B t v) : ∃ s, v = .string s ∧ s.size ≤ B := by
  unfold ArgOf at h
  rw [hu] at h
  obtain ⟨s, e, hs⟩ := h.inv_string hu
  exact ⟨s, by simpa using e, hs⟩
theorem arg_int {P : Program} {m : Mem} {B : Nat} {t : TypeId} {v : Value} {k : IntKind} (hu : P.underlying t = some (.int k)) (h : ArgOf P m B t v) : ∃ n, v = .int k n ∧ (Lit.int k n).wf = true := by
  unfold ArgOf at h
  rw [hu] at h
  obtain ⟨n, e, hs⟩ := h.inv_int hu
  exact ⟨n, by simpa using e, hs⟩
end Go.Proofs.YtmnebimijlnlkaaGreatDoor.Abs
namespace Go.Proofs.YtmnebimijlnlkaaGreatDoor.Abs
open Go Go.RowKit
theorem nth_zero (o : Option (Option Blk)) (r : List (Option (Option Blk))) : nth (o :: r) 0 = o := rfl
theorem nth_succ (o : Option (Option Blk)) (r : List (Option (Option Blk))) (i : Nat) : nth (o :: r) (i + 1) = nth r i := rfl
theorem Cl.agg {p : Nat → Prop} {cs : Array Value} (h : Cl p (.agg cs)) : ∀ v ∈ cs.toList, Cl p v := by
  obtain ⟨κ, u, h⟩ := h
  obtain ⟨ys, rfl, hl, hh⟩ := h.agg_inv
  intro v hv
  obtain ⟨i, hi, rfl⟩ := List.getElem_of_mem hv
  exact (hh i _ _ (List.getElem?_eq_getElem hi) (List.getElem?_eq_getElem (by rw [← hl]; exact hi))).cl
theorem Cl.tuple {p : Nat → Prop} {cs : Array Value} (h : Cl p (.tuple cs)) : ∀ v ∈ cs.toList, Cl p v := by
  obtain ⟨κ, u, h⟩ := h
  obtain ⟨ys, rfl, hl, hh⟩ := h.tuple_inv
  intro v hv
  obtain ⟨i, hi, rfl⟩ := List.getElem_of_mem hv
  exact (hh i _ _ (List.getElem?_eq_getElem hi) (List.getElem?_eq_getElem (by rw [← hl]; exact hi))).cl
def rowIn (n o : Nat) : Option Blk → Option Value
  | some (.cells _ _ cs) => if o + n ≤ cs.length then some (.agg ((cs.drop o).take n).toArray) else none
  | _ => none
def cellIn (o : Nat) : Option Blk → Option Value
  | some (.cells _ _ cs) => cs[o]?
  | _ => none
def putIn (n : Nat) (m : Mem) (b o : Nat) (vs : List Value) : Option Blk → Option Mem
  | some (.cells false s cs) => if vs.length = n ∧ o + vs.length ≤ cs.length ∧ oneAll vs = true then some (m.set b (some (.cells false s (setL cs o vs)))) else none
  | _ => none
section
variable {P : Program} {t : TypeId} {d : TypeDesc} {i : TypeInfo} {n : Nat}
theorem ld_row (hu : P.underlying t = some d) (hd : d.isRow = true) (hi : P.info? t = some i) (hs : i.size = n) (get : Nat → Option Blk) (b o : Nat) : gLoad P get t (.pointer (some ⟨b, o, none⟩)) = rowIn n o (get b) := by
  subst hs
  cases hb : get b with
  | none => simp only [gLoad, hb, rowIn]
  | some x => cases x <;> simp only [gLoad, hb, rowIn, hu, hd, if_true, hi]
theorem ld_cell (hu : P.underlying t = some d) (hd : d.isRow = false) (get : Nat → Option Blk) (b o : Nat) : gLoad P get t (.pointer (some ⟨b, o, none⟩)) = cellIn o (get b) := by
  cases hb : get b with
  | none => simp only [gLoad, hb, cellIn]
  | some x => cases x <;> simp only [gLoad, hb, cellIn, hu, hd, Bool.false_eq_true, if_false]
theorem st_any (hi : P.info? t = some i) (hs : i.size = n) (m : Mem) (b o : Nat) (v : Value) : aStore P m t (.pointer (some ⟨b, o, none⟩)) v = putIn n m b o v.cells.toList (m.get b) := by
  subst hs
  cases hb : m.get b with
  | none => simp only [aStore, hb, putIn]
  | some x => rcases x with ⟨ro, s, cs⟩ | ⟨ro, es, c⟩ | ⟨ro, d, s, l, k⟩ <;> cases ro <;> simp only [aStore, hb, putIn, hi]
end
theorem aLoad_g (P : Program) (m : Mem) (t : TypeId) (p : Value) : aLoad P m t p = gLoad P m.get t p := by
  unfold aLoad gLoad
  rfl
theorem Grows.ext (m : Mem) (l : List (Option (Option Blk))) : Grows m (ext m l) := ⟨by rw [ext_size]; omega, fun b x h => ext_get_old l h⟩
theorem g_tt : ((some true : Option Bool) == some true) = true := rfl
theorem g_tf : ((some true : Option Bool) == some false) = false := rfl
theorem g_ft : ((some false : Option Bool) == some true) = false := rfl
theorem g_ff : ((some false : Option Bool) == some false) = true := rfl
theorem aUn_not (b : Bool) : aUn .not (.bool b) = some (.bool !b) := rfl
theorem agg_cells (xs : Array Value) : (Value.agg xs).cells.toList = xs.toList := rfl
theorem row_struct (fs : Array Field) : (TypeDesc.struct fs).isRow = true := rfl
theorem row_array (k : Nat) (e : TypeId) : (TypeDesc.array k e).isRow = true := rfl
theorem rowIn_at {α : Type} {n : Nat} {f : α → List Value} {xs : List α} (hl : ∀ x ∈ xs, (f x).length = n) {k : Nat} {x : α} (hx : xs[k]? = some x) (ro : Bool) (s : Nat) : rowIn n (k * n) (some (.cells ro s (xs.flatMap f))) = some (.agg (f x).toArray) := by
  have h1 := flatMap_len f n xs hl
  have h2 := (List.getElem?_eq_some_iff.1 hx).1
  have h3 := Nat.mul_le_mul_right n (show k + 1 ≤ xs.length by omega)
  rw [Nat.add_mul, Nat.one_mul] at h3
  unfold rowIn
  simp only
  rw [if_pos (by omega), flatMap_at f n xs k x hl hx]
theorem nBox_row {P : Program} (t : TypeId) {xs : Array Value} (h : oneAll xs.toList = true) : nBox P t (.agg xs) = some (.cells false (aStride P t) xs.toList) := by
  unfold nBox
  rw [agg_cells, if_pos h]
def zZ := And.intro (And.intro (And.intro (And.intro (And.intro (And.intro (And.intro (And.intro @alOf.eq_1 @alOf.eq_2) (And.intro @sOps.eq_1 @sOpsB.eq_1)) (And.intro (And.intro @sOpsB.eq_2 @sOp.eq_1) (And.intro @sOne.eq_1 @sHOne.eq_1))) (And.intro (And.intro (And.intro @sHOp.eq_1 @sGuard.eq_1) (And.intro @sWant.eq_1 @sFun.eq_1)) (And.intro (And.intro @sGuarded.eq_1 @sGuarded.eq_2) (And.intro @sGuarded.eq_3 @sGuardedV.eq_1)))) (And.intro (And.intro (And.intro (And.intro @sGuardedV.eq_2 @sGuardedV.eq_3) (And.intro @isFn.eq_1 @isFn.eq_2)) (And.intro (And.intro @isFn.eq_3 @isVal.eq_1) (And.intro @isVal.eq_2 @kind.eq_1))) (And.intro (And.intro (And.intro @kind.eq_2 @kind.eq_3) (And.intro @kind.eq_4 @kind.eq_5)) (And.intro (And.intro @kind.eq_6 @kind.eq_7) (And.intro (@kind.eq_8) (And.intro @kind.eq_9 @kind.eq_10)))))) (And.intro (And.intro (And.intro (And.intro (And.intro @kind.eq_11 @kind.eq_12) (And.intro @kindB.eq_1 @kindB.eq_2)) (And.intro (And.intro @kindB.eq_3 @kindB.eq_4) (And.intro @kindC.eq_1 @kindC.eq_2))) (And.intro (And.intro (And.intro @kindT.eq_1 @kindT.eq_2) (And.intro @withV_some @withV_ite)) (And.intro (And.intro @sVal.eq_1 @sVal.eq_2) (And.intro @sVal.eq_3 @sVal.eq_4)))) (And.intro (And.intro (And.intro (And.intro @sVal.eq_5 @sVal.eq_6) (And.intro @sVal.eq_7 @sVal.eq_8)) (And.intro (And.intro @sVal.eq_9 @sVal.eq_10) (And.intro @sVal.eq_11 @sVal.eq_12))) (And.intro (And.intro (And.intro @sVal.eq_13 @sVal.eq_14) (And.intro @sVal.eq_15 @sVal.eq_16)) (And.intro (And.intro @sVal.eq_17 @sVal.eq_18) (And.intro (@sVal.eq_19) (And.intro @sVal.eq_20 @sVal.eq_21))))))) (And.intro (And.intro (And.intro (And.intro (And.intro (And.intro @sNew.eq_1 @sNew.eq_2) (And.intro @sNew.eq_3 @sNew.eq_4)) (And.intro (And.intro @sNew.eq_5 @sNew.eq_6) (And.intro @sNew.eq_7 @sMem.eq_1))) (And.intro (And.intro (And.intro @sMem.eq_2 @sMem.eq_3) (And.intro @sMem.eq_4 @sMem.eq_5)) (And.intro (And.intro @sMem.eq_6 @sAny.eq_1) (And.intro @sAny.eq_2 @sAny.eq_3)))) (And.intro (And.intro (And.intro (And.intro @sLookup.eq_1 @sLookup.eq_2) (And.intro @sLookup.eq_3 @sEntry.eq_1)) (And.intro (And.intro @sEntry.eq_2 @sArgs.eq_1) (And.intro @sArgs.eq_2 @sParts.eq_1))) (And.intro (And.intro (And.intro @sParts.eq_2 @sBin.eq_1) (And.intro @sBin.eq_2 @sConv.eq_1)) (And.intro (And.intro @sConv.eq_2 @sConv.eq_3) (And.intro (@sConv.eq_4) (And.intro @sConv_slice @vSlice.eq_1)))))) (And.intro (And.intro (And.intro (And.intro (And.intro @vSlice.eq_2 @vSlice.eq_3) (And.intro @vSlice.eq_4 @vSlice.eq_5)) (And.intro (And.intro @fOpt.eq_1 @fOpt.eq_2) (And.intro @vPick.eq_1 @vPick.eq_2))) (And.intro (And.intro (And.intro @vPick.eq_3 @vLoad.eq_1) (And.intro @vLoad.eq_2 @vIndexAddr.eq_1)) (And.intro (And.intro @vIndexAddr.eq_2 @vIndexAddr.eq_3) (And.intro @vIndex.eq_1 @vIndex.eq_2)))) (And.intro (And.intro (And.intro (And.intro @vIndex.eq_3 @vExtract.eq_1) (And.intro @vExtract.eq_2 @vUn.eq_1)) (And.intro (And.intro @vUn.eq_2 @aUn_not) (And.intro @Bool.not_true @Bool.not_false))) (And.intro (And.intro (And.intro @sCallee.eq_1 @sCallee.eq_2) (And.intro @AL.look.eq_1 @AL.look.eq_2)) (And.intro (And.intro @AL.look.eq_3 @AL.look.eq_4) (And.intro (@AL.get.eq_1) (And.intro @AL.get.eq_2 @AL.keep_cons)))))))) (And.intro (And.intro (And.intro (And.intro (And.intro (And.intro (And.intro @AL.keep.eq_1 @AL.keep.eq_2) (And.intro @flat.eq_1 @flat.eq_2)) (And.intro (And.intro @flat.eq_3 @flat.eq_4) (And.intro @flat.eq_5 @flat.eq_6))) (And.intro (And.intro (And.intro @flat.eq_7 @flat.eq_8) (And.intro @flat.eq_9 @flat.eq_10)) (And.intro (And.intro @flat.eq_11 @flat.eq_12) (And.intro @flat.eq_13 @flat.eq_14)))) (And.intro (And.intro (And.intro (And.intro @flat.eq_15 @sPut.eq_1) (And.intro @sPut.eq_2 @isC.eq_1)) (And.intro (And.intro @isC.eq_2 @sThen.eq_1) (And.intro @sThen.eq_2 @sBlock.eq_1))) (And.intro (And.intro (And.intro @sBlock.eq_2 @cThen.eq_1) (And.intro @cThen.eq_2 @cBlock.eq_1)) (And.intro (And.intro @cBlock.eq_2 @sHead.eq_1) (And.intro (@sHeadB.eq_1) (And.intro @sHeadB.eq_2 @sEnd.eq_1)))))) (And.intro (And.intro (And.intro (And.intro (And.intro @sEnd.eq_2 @sEnd.eq_3) (And.intro @List.take_succ_cons.{0} @List.take_zero.{0})) (And.intro (And.intro @List.drop_succ_cons.{0} @List.drop_zero.{0}) (And.intro @aBin_ii @aBin_ss))) (And.intro (And.intro (And.intro @aBinI.eq_1 @aBinI.eq_2) (And.intro @aBinI.eq_3 @aInt_add)) (And.intro (And.intro @aInt_sub @aInt_mul) (And.intro @aInt_quo @aInt_rem)))) (And.intro (And.intro (And.intro (And.intro @aInt_and @aInt_or) (And.intro @aInt_xor @aInt_eql)) (And.intro (And.intro @aInt_neq @aInt_lss) (And.intro @aInt_leq @aInt_gtr))) (And.intro (And.intro (And.intro @aInt_geq @aStr_add) (And.intro @aStr_eql @aStr_neq)) (And.intro (And.intro @Bool.false_eq_true @Bool.or_true) (And.intro (@Bool.or_false) (And.intro @Bool.true_or @if_true.{1}))))))) (And.intro (And.intro (And.intro (And.intro (And.intro (And.intro @if_false.{1} @true_and) (And.intro @and_true @List.nil_append.{0})) (And.intro (And.intro @List.append_nil.{0} Tryz.underlying49) (And.intro Tryz.underlying5 Tryz.underlying3))) (And.intro (And.intro (And.intro Tryz.underlying22 Tryz.underlying9) (And.intro @inf_u8 @inf_int)) (And.intro (And.intro @inf_str @u8_size) (And.intro @int_size @Abs.str_size)))) (And.intro (And.intro (And.intro (And.intro @aIndexAddr.eq_1 @aIndexAddr.eq_2) (And.intro @row_int @row_str)) (And.intro (And.intro @Nat.mul_one @Nat.zero_add) (And.intro @aLen.eq_1 @aLen.eq_2))) (And.intro (And.intro (And.intro @aLen.eq_3 @vCall.eq_1) (And.intro @vCall.eq_2 @vCall.eq_3)) (And.intro (And.intro @vBuiltin.eq_1 @vBuiltin.eq_2) (And.intro (@vBuiltin.eq_3) (And.intro @vBuiltin.eq_4 @vLen.eq_1)))))) (And.intro (And.intro (And.intro (And.intro (And.intro @vLen.eq_2 @vLen.eq_3) (And.intro @new_int @new_u8)) (And.intro (And.intro @Int.toNat_natCast @vFieldAddr.eq_1) (And.intro @vFieldAddr.eq_2 @vBuild.eq_1))) (And.intro (And.intro (And.intro @vBuild.eq_2 @vNil.eq_1) (And.intro @vNil.eq_2 @vNil.eq_3)) (And.intro (And.intro @ext_size @ext_push) (And.intro @ext_set @ext_get)))) (And.intro (And.intro (And.intro (And.intro @nth_zero @nth_succ) (And.intro @List.length_cons.{0} @List.length_nil.{0})) (And.intro (And.intro @List.cons_append.{0} @List.set_cons_zero.{0}) (And.intro @List.set_cons_succ.{0} @cellIn.eq_1))) (And.intro (And.intro (And.intro @cellIn.eq_2 @Region.wanted.eq_1) (And.intro @g_tt @g_tf)) (And.intro (And.intro @g_ft @g_ff) (And.intro (@List.getElem?_cons_succ.{0}) (And.intro @List.getElem?_cons_zero.{0} @List.toList_toArray.{0}))))))))
end Go.Proofs.YtmnebimijlnlkaaGreatDoor.Abs
namespace Go.Proofs.YtmnebimijlnlkaaGreatDoor.Abs
open Go
structure Thin (m m' : Mem) : Prop where
  has : ∀ b, m.Has b → m'.Has b
  get : ∀ b ro s cs, m'.get b = some (.cells ro s cs) → ∃ r, m.get b = some (.cells r s cs) ∧ (r = true → ro = true)
  oth : ∀ b x, m'.get b = some x → (∃ ro s cs, x = .cells ro s cs) ∨ m.get b = some x
theorem Thin.refl (m : Mem) : Thin m m := ⟨fun _ h => h, fun b ro s cs h => ⟨ro, h, fun h => h⟩, fun _ _ h => .inr h⟩
theorem Thin.trans {m m' m'' : Mem} (h : Thin m m') (k : Thin m' m'') : Thin m m'' :=
  ⟨fun b hb => k.has b (h.has b hb), fun b ro s cs hb => by
    obtain ⟨r, h1, h2⟩ := k.get b ro s cs hb
    obtain ⟨r', h3, h4⟩ := h.get b r s cs h1
    exact ⟨r', h3, fun e => h2 (h4 e)⟩, fun b x hb => (k.oth b x hb).elim .inl fun hb => h.oth b x hb⟩
theorem Thin.own {m m' : Mem} (h : Thin m m') {b : Nat} (hb : m'.Own b) : m.Own b := by
  obtain ⟨x, hb, hx⟩ := hb
  rcases h.oth b x hb with ⟨ro, s, cs, rfl⟩ | h1
  · have hro : ro = false := by simpa [Blk.own] using hx
    subst hro
    obtain ⟨r, h1, h2⟩ := h.get b false s cs hb
    cases r with
    | false => exact .of h1
    | true => cases h2 rfl
  · exact ⟨x, h1, hx⟩
theorem Thin.live {m m' : Mem} (h : Thin m m') {b : Nat} (hb : m'.get b ≠ none) : m.get b ≠ none := by
  cases hx : m'.get b with
  | none => exact absurd hx hb
  | some x =>
    rcases h.oth b x hx with ⟨ro, s, cs, rfl⟩ | h1
    · obtain ⟨r, h1, _⟩ := h.get b ro s cs hx
      rw [h1]; simp
    · rw [h1]; simp
theorem Rel.thin {ι : Nat → Loc} {m m' : Mem} {w : World} (h : Rel ι m w) (k : Thin m m') : Rel ι m' w := by
  refine ⟨fun b ro s cs hb => ?_, fun b x hb => ?_, fun b b' hb hb' hne => h.inj b b' (k.live hb) (k.own hb') hne, ⟨h.glob.known, fun b hb => h.glob.own b (k.own hb)⟩⟩
  rotate_left
  · rcases k.oth b x hb with ⟨ro, s, cs, rfl⟩ | h1
    · trivial
    · exact (h.oth b x h1).mono k.has fun _ _ => rfl
  obtain ⟨r, h1, h2⟩ := k.get b ro s cs hb
  obtain ⟨C, e, fz, g1, g2, g3, g4, g5, g6⟩ := h.at' b r s cs h1
  refine ⟨C, e, fz, g1, g2, g3, g4, fun i v hi => ?_, fun hro => g6 ?_⟩
  · obtain ⟨g7, v', g8, g9⟩ := g5 i v hi
    exact ⟨g7, v', g8, g9.mono k.has fun _ _ => rfl⟩
  · cases r with
    | false => rfl
    | true => rw [h2 rfl] at hro; cases hro
theorem Step.thin {ι₀ ι : Nat → Loc} {m₀ m m' : Mem} {w₀ w : World} (h : Step ι₀ m₀ w₀ ι m w) (k : Thin m m') : Step ι₀ m₀ w₀ ι m' w :=
  ⟨h.os, h.tape, h.output, h.size, fun b hb => k.has b (h.grows b hb), h.at_, h.block, fun b hb => h.own b (k.own hb)⟩
def fz1 (g : Nat) (m : Mem) : Mem := match m.get g with | some (.cells _ s cs) => m.set g (some (.cells true s cs)) | _ => m
theorem fz1_thin (g : Nat) (m : Mem) : Thin m (fz1 g m) := by
  unfold fz1
  split
  · rename_i r s cs hg
    refine ⟨fun b hb => Mem.has_set _ hb, fun b ro s' cs' hb => ?_, fun b x hb => ?_⟩
    rotate_left
    · by_cases e : g = b
      · subst e
        rw [Mem.get_set_same hg] at hb
        cases hb
        exact .inl ⟨_, _, _, rfl⟩
      · rw [Mem.get_set_ne e] at hb
        exact .inr hb
    by_cases e : g = b
    · subst e
      rw [Mem.get_set_same hg] at hb
      cases hb
      exact ⟨r, hg, fun _ => rfl⟩
    · rw [Mem.get_set_ne e] at hb
      exact ⟨ro, hb, fun h => h⟩
  · exact .refl m
theorem fz1_get {g : Nat} {m : Mem} {ro : Bool} {s : Nat} {cs : List Value} (h : m.get g = some (.cells ro s cs)) : (fz1 g m).get g = some (.cells true s cs) := by
  unfold fz1
  rw [h]
  exact Mem.get_set_same h _
theorem fz1_ne {g b : Nat} {m : Mem} (h : g ≠ b) : (fz1 g m).get b = m.get b := by
  unfold fz1
  split
  · exact Mem.get_set_ne h _
  · rfl
theorem Spec.thin {P : Program} {f : FuncId} {xs : List Value} {m : Mem} {R R' : Value → Mem → Prop} (h : Spec P f xs m R) (hr : ∀ v M, R v M → ∃ M', Thin M M' ∧ R' v M') : Spec P f xs m R' := by
  intro ι w ys hy hw
  refine (h ι w ys hy hw).mono ?_
  rintro e w' ⟨v, v', κ, M, h1, h2, h3, h4, h5⟩
  obtain ⟨M', k1, k2⟩ := hr v M h1
  exact ⟨v, v', κ, M', k2, h2, h3.mono k1.has fun _ _ => rfl, h4.thin k1, h5.thin k1⟩
def keepF (f : AL) : List Nat → Option AL
  | [] => some []
  | t :: r => match AL.get f t with
    | none => none
    | some v => match keepF f r with
      | none => none
      | some q => some ((t, v) :: q)
theorem keepF_get {f : AL} : ∀ {ts : List Nat} {q : AL}, keepF f ts = some q → ∀ (t : Nat) (v : Value), AL.get q t = some v → AL.get f t = some v
  | [], q, h, t, v, hv => by simp only [keepF, Option.some.injEq] at h; subst h; simp [AL.get] at hv
  | u :: r, q, h, t, v, hv => by
    simp only [keepF] at h
    split at h <;> first | (cases h; done) | skip
    rename_i x hx
    split at h <;> first | (cases h; done) | skip
    rename_i q' hq'
    cases h
    simp only [AL.get] at hv
    split at hv
    · rename_i e; subst e; cases hv; exact hx
    · exact keepF_get hq' t v hv
theorem Knows.keepF {n : Nat} {f f' : AL} {a : List Value} {ts : List Nat} (h : Knows n f a) (hk : keepF f ts = some f') : Knows n f' a := ⟨h.1, fun t v hv => h.2 t v (keepF_get hk t v hv)⟩
def JoinM (f : AL) (m : Mem) [J : Box (AL → Mem → Prop)] : Prop := ∃ slots, @withV _ (keepF f slots) ⟨fun f' => ∃ m', Thin m m' ∧ J.k f' m'⟩
section
variable {P : Program} {n k : Nat} {f : AL} {m : Mem} {Q : Exit → AL → Mem → Prop}
theorem MW_loop {c : Code} (I : Nat → AL → Mem → Prop) (j₀ : Nat) (h₀ : @JoinM f m ⟨I j₀⟩)
    (round : ∀ j f m, I j f m → @CW P n k ⟨c⟩ ⟨@cThen ⟨fun f' m' => @JoinM f' m' ⟨fun f2 m2 => ∃ j', I j' f2 m2 ∧ j' < j⟩⟩ ⟨Q⟩⟩ f m) : @CW P n k ⟨.loop c⟩ ⟨Q⟩ f m := by
  intro a ha ι₀ m₀ w₀ ι act w h0 hs hA hr
  have run : ∀ j f m, I j f m → ∀ (a : List Value) (ι : Nat → Loc) (act : Act) (w : World), Knows n f a → Step ι₀ m₀ w₀ ι m w → ARel m.Has ι a act → Rel ι m w →
      Code.rounds P c (Post ι₀ m₀ w₀ fun e a' m' => ∃ f', Knows n f' a' ∧ Q e f' m') (j + 1) act w := by
    intro j
    induction j using Nat.strongRecOn with
    | _ j ih =>
      intro f m hI a ι act w ha hs hA hr
      refine wp_mono (round j f m hI a ha ι₀ m₀ w₀ ι act w h0 hs hA hr) ?_
      rintro e act2 w2 ⟨κ, a2, m2, ⟨f2, hf2, hq2⟩, ha2, hr2, hs2⟩
      cases e with
      | normal =>
        obtain ⟨slots, hq2⟩ := hq2
        obtain ⟨f3, hf3, m3, ht, j', hI', hlt⟩ := withV_spec hq2
        exact SW_loop.rounds_le (ih j' hlt f3 m3 hI' a2 κ act2 w2 (hf2.keepF hf3) (hs2.thin ht) (ha2.mono ht.has fun _ _ => rfl) (hr2.thin ht)) (by omega)
      | _ => exact ⟨κ, a2, m2, ⟨f2, hf2, hq2⟩, ha2, hr2, hs2⟩
  obtain ⟨slots, hq2⟩ := h₀
  obtain ⟨f3, hf3, m3, ht, hI'⟩ := withV_spec hq2
  exact wp_loop_rounds (j₀ + 1) (run j₀ f3 m3 hI' a ι act w (ha.keepF hf3) (hs.thin ht) (hA.mono ht.has fun _ _ => rfl) (hr.thin ht))
theorem MW_mid {x y : Code} (I : AL → Mem → Prop) (h : @CW P n k ⟨x⟩ ⟨@cThen ⟨fun f' m' => @JoinM f' m' ⟨I⟩⟩ ⟨Q⟩⟩ f m) (hy : ∀ f m, I f m → @CW P n k ⟨y⟩ ⟨Q⟩ f m) : @CW P n k ⟨.seq x y⟩ ⟨Q⟩ f m := by
  refine CW_seq (h.mono ?_)
  intro e f' m' hq
  cases e with
  | normal =>
    obtain ⟨slots, hq⟩ := hq
    obtain ⟨f3, hf3, m3, ht, hI⟩ := withV_spec hq
    intro a ha ι₀ m₀ w₀ ι act w h0 hs hA hr
    exact hy f3 m3 hI a (ha.keepF hf3) ι₀ m₀ w₀ ι act w h0 (hs.thin ht) (hA.mono ht.has fun _ _ => rfl) (hr.thin ht)
  | _ => exact hq
def mEnd (P : Program) (rs : List ResultVar) (R : Value → Mem → Prop) : Exit → AL → Mem → Prop
  | .ret, f, m => @withV _ (sAnswer P rs f m) ⟨fun v => ∃ m', Thin m m' ∧ R v m'⟩
  | .normal, f, m => @withV _ (sAnswer P rs f m) ⟨fun v => ∃ m', Thin m m' ∧ R v m'⟩
  | _, _, _ => False
theorem Spec.walkM {g : FuncId} {fn : Func} {c : Code} {xs : List Value} {R : Value → Mem → Prop} {m : Mem} (hf : P.funcs[g]? = some fn) (hb : fn.body = some c) (rs : Array ResultVar) (hr : fn.results = rs) (n : Nat) (hn : fn.ntmps = n) (hx : xs.length ≤ n)
    (h : Within m → (∀ x ∈ xs, Cl m.Has x) → ∀ k, @CW P n k ⟨c⟩ ⟨mEnd P rs.toList R⟩ (alOf 0 xs) m) : Spec P g xs m R := by
  intro ι w ys hys hrel
  have hcl : ∀ x ∈ xs, Cl m.Has x := by
    intro x hx
    obtain ⟨i, hi, rfl⟩ := List.getElem_of_mem hx
    exact (hys.2 i _ _ (List.getElem?_eq_getElem hi) (List.getElem?_eq_getElem (by rw [← hys.1]; exact hi))).cl
  have hw := hrel.within
  have hs : Spec P g xs m fun v M => ∃ M', Thin M M' ∧ R v M' := by
    refine Spec.walk hf hb rs hr n hn hx fun a ha ι₀ m₀ w₀ ι act w hs hA hr => ?_
    refine wp_mono (h hw hcl m₀.size a ha ι₀ m₀ w₀ ι act w (Nat.le_refl _) hs hA hr) ?_
    rintro e act' w' ⟨κ, a', m', ⟨f', h1, h2⟩, h3⟩
    refine ⟨κ, a', m', ⟨f', h1, ?_⟩, h3⟩
    cases e <;> exact h2
  exact (hs.thin fun v M h => h) ι w ys hys hrel
end
end Go.Proofs.YtmnebimijlnlkaaGreatDoor.Abs
namespace Go.Proofs.YtmnebimijlnlkaaGreatDoor.Abs
open Go
section
variable {P : Program} {t tx e : TypeId} {i : TypeInfo} {z : Value} {N : Nat}
end
end Go.Proofs.YtmnebimijlnlkaaGreatDoor.Abs
namespace Go.Proofs
open Go.Shelf
def Tryz.lays160_ren : Go.Shelf.Ren := ⟨fun | 160 => 55 | 232 => 97 | 231 => 96 | 227 => 98 | 234 => 100 | 233 => 99 | 236 => 102 | 235 => 101 | 228 => 142 | 271 => 145 | 151 => 144 | 197 => 143 | 120 => 177 | 152 => 176 | 260 => 175 | 137 => 204 | 119 => 205 | 224 => 206 | 225 => 207 | 217 => 219 | 266 => 229 | n => n, fun | 9 => 9 | 4 => 4 | 3 => 3 | 5 => 5 | 117 => 180 | 116 => 179 | 0 => 0 | 124 => 183 | 21 => 21 | 105 => 218 | 46 => 121 | 119 => 268 | 139 => 271 | 138 => 270 | n => n, fun | 3 => 2 | 4 => 3 | n => n⟩
theorem Tryz.lays160 : Go.Proofs.Lays.n160 Tryz.prog Tryz.lays160_ren := {
  mixed := by kernel_rfl
  f119 := Tryz.func205.trans (congrArg some (by kernel_rfl))
  f120 := Tryz.func177.trans (congrArg some (by kernel_rfl))
  f137 := Tryz.func204.trans (congrArg some (by kernel_rfl))
  f151 := Tryz.func144.trans (congrArg some (by kernel_rfl))
  f152 := Tryz.func176.trans (congrArg some (by kernel_rfl))
  f160 := Tryz.func55.trans (congrArg some (by kernel_rfl))
  f197 := Tryz.func143.trans (congrArg some (by kernel_rfl))
  f217 := Tryz.func219.trans (congrArg some (by kernel_rfl))
  f224 := Tryz.func206.trans (congrArg some (by kernel_rfl))
  f225 := Tryz.func207.trans (congrArg some (by kernel_rfl))
  f227 := Tryz.func98.trans (congrArg some (by kernel_rfl))
  f228 := Tryz.func142.trans (congrArg some (by kernel_rfl))
  f231 := Tryz.func96.trans (congrArg some (by kernel_rfl))
  f232 := Tryz.func97.trans (congrArg some (by kernel_rfl))
  f233 := Tryz.func99.trans (congrArg some (by kernel_rfl))
  f234 := Tryz.func100.trans (congrArg some (by kernel_rfl))
  f235 := Tryz.func101.trans (congrArg some (by kernel_rfl))
  f236 := Tryz.func102.trans (congrArg some (by kernel_rfl))
  f260 := Tryz.func175.trans (congrArg some (by kernel_rfl))
  f266 := Tryz.func229.trans (congrArg some (by kernel_rfl))
  f271 := Tryz.func145.trans (congrArg some (by kernel_rfl))
  t0 := Tryz.underlying0
  a0 := Tryz.isAgg0
  z0 := Tryz.sizeOf0
  v0 := Tryz.zeroValue0
  t3 := Tryz.underlying3
  a3 := Tryz.isAgg3
  z3 := Tryz.sizeOf3
  v3 := Tryz.zeroValue3
  t4 := Tryz.underlying4
  a4 := Tryz.isAgg4
  z4 := Tryz.sizeOf4
  v4 := Tryz.zeroValue4
  t5 := Tryz.underlying5
  a5 := Tryz.isAgg5
  z5 := Tryz.sizeOf5
  v5 := Tryz.zeroValue5
  t9 := Tryz.underlying9
  a9 := Tryz.isAgg9
  z9 := Tryz.sizeOf9
  v9 := Tryz.zeroValue9
  t21 := Tryz.underlying21
  a21 := Tryz.isAgg21
  z21 := Tryz.sizeOf21
  v21 := Tryz.zeroValue21
  t46 := Tryz.underlying121
  a46 := Tryz.isAgg121
  z46 := Tryz.sizeOf121
  v46 := Tryz.zeroValue121
  t105 := Tryz.underlying218
  a105 := Tryz.isAgg218
  z105 := Tryz.sizeOf218
  v105 := Tryz.zeroValue218
  t116 := Tryz.underlying179
  a116 := Tryz.isAgg179
  z116 := Tryz.sizeOf179
  t117 := Tryz.underlying180
  a117 := Tryz.isAgg180
  z117 := Tryz.sizeOf180
  v117 := Tryz.zeroValue180
  t119 := Tryz.underlying268
  a119 := Tryz.isAgg268
  z119 := Tryz.sizeOf268
  t124 := Tryz.underlying183
  a124 := Tryz.isAgg183
  z124 := Tryz.sizeOf183
  v124 := Tryz.zeroValue183
  t138 := Tryz.underlying270
  a138 := Tryz.isAgg270
  z138 := Tryz.sizeOf270
  v138 := Tryz.zeroValue270
  t139 := Tryz.underlying271
  a139 := Tryz.isAgg271
  z139 := Tryz.sizeOf271
  v139 := Tryz.zeroValue271
  g3 := by kernel_rfl
  g4 := by kernel_rfl }
open Go.RowKit in
theorem Tryz.strings_Trim_one (s : ByteArray) (c : UInt8) (hc : c.toNat < 128) (w : World) (hs : s.size ≤ 9223372036854775807) :
    Calls Tryz.prog 55 #[.string s, .string ⟨#[c]⟩] w fun e w' => e = .returned (.string ⟨(Lib.trimB s.data.toList c).toArray⟩) ∧ (w' = w ∨ w' = w.drew) := Any.strings_Trim_one Tryz.lays160 s c hc w hs
def Tryz.lays103_ren : Go.Shelf.Ren := ⟨fun | 103 => 54 | 210 => 95 | 206 => 91 | n => n, fun | 9 => 9 | 4 => 4 | 24 => 129 | 3 => 3 | n => n, fun | n => n⟩
theorem Tryz.lays103 : Go.Proofs.Lays.n103 Tryz.prog Tryz.lays103_ren := {
  mixed := by kernel_rfl
  f103 := Tryz.func54.trans (congrArg some (by kernel_rfl))
  f206 := Tryz.func91.trans (congrArg some (by kernel_rfl))
  f210 := Tryz.func95.trans (congrArg some (by kernel_rfl))
  t3 := Tryz.underlying3
  a3 := Tryz.isAgg3
  z3 := Tryz.sizeOf3
  v3 := Tryz.zeroValue3
  t4 := Tryz.underlying4
  a4 := Tryz.isAgg4
  z4 := Tryz.sizeOf4
  v4 := Tryz.zeroValue4
  t9 := Tryz.underlying9
  a9 := Tryz.isAgg9
  z9 := Tryz.sizeOf9
  v9 := Tryz.zeroValue9
  t24 := Tryz.underlying129
  a24 := Tryz.isAgg129
  z24 := Tryz.sizeOf129
  v24 := Tryz.zeroValue129 }
open Go.RowKit in
theorem Tryz.strings_CutPrefix (s p : ByteArray) (w : World) :
    Calls Tryz.prog 54 #[.string s, .string p] w fun e w' => e = .returned (.tuple #[.string ⟨(Lib.trimPrefix s.data.toList p.data.toList).toArray⟩, .bool (Lib.hasPrefix s.data.toList p.data.toList)]) ∧ w' = w := Any.strings_CutPrefix Tryz.lays103 s p w
def Tryz.laysM171_ren : Go.Shelf.Ren := ⟨fun | 171 => 17 | 243 => 45 | 246 => 88 | 283 => 132 | 284 => 133 | 285 => 134 | 286 => 135 | 129 => 159 | 317 => 170 | 318 => 171 | 319 => 172 | 320 => 173 | 337 => 199 | 338 => 200 | n => n, fun | 3 => 3 | 9 => 9 | 2 => 2 | 4 => 4 | 171 => 208 | 0 => 0 | 53 => 80 | 37 => 49 | 5 => 5 | 173 => 211 | 212 => 240 | 51 => 168 | 20 => 20 | 213 => 241 | 46 => 121 | 232 => 282 | 233 => 246 | n => n, fun | 17 => 0 | 18 => 4 | 19 => 5 | n => n⟩
theorem Tryz.laysM171 : Go.Proofs.LaysM.n171 Tryz.prog Tryz.laysM171_ren := {
  mixed := by kernel_rfl
  f129 := Tryz.func159.trans (congrArg some (by kernel_rfl))
  f171 := Tryz.func17.trans (congrArg some (by kernel_rfl))
  f243 := Tryz.func45.trans (congrArg some (by kernel_rfl))
  f246 := Tryz.func88.trans (congrArg some (by kernel_rfl))
  f283 := Tryz.func132.trans (congrArg some (by kernel_rfl))
  f284 := Tryz.func133.trans (congrArg some (by kernel_rfl))
  f285 := Tryz.func134.trans (congrArg some (by kernel_rfl))
  f286 := Tryz.func135.trans (congrArg some (by kernel_rfl))
  f317 := Tryz.func170.trans (congrArg some (by kernel_rfl))
  f318 := Tryz.func171.trans (congrArg some (by kernel_rfl))
  f319 := Tryz.func172.trans (congrArg some (by kernel_rfl))
  f320 := Tryz.func173.trans (congrArg some (by kernel_rfl))
  f337 := Tryz.func199.trans (congrArg some (by kernel_rfl))
  f338 := Tryz.func200.trans (congrArg some (by kernel_rfl))
  t0 := Tryz.underlying0
  a0 := Tryz.isAgg0
  z0 := Tryz.sizeOf0
  v0 := Tryz.zeroValue0
  t2 := Tryz.underlying2
  a2 := Tryz.isAgg2
  z2 := Tryz.sizeOf2
  v2 := Tryz.zeroValue2
  t3 := Tryz.underlying3
  a3 := Tryz.isAgg3
  z3 := Tryz.sizeOf3
  v3 := Tryz.zeroValue3
  t4 := Tryz.underlying4
  a4 := Tryz.isAgg4
  z4 := Tryz.sizeOf4
  v4 := Tryz.zeroValue4
  t5 := Tryz.underlying5
  a5 := Tryz.isAgg5
  z5 := Tryz.sizeOf5
  v5 := Tryz.zeroValue5
  t9 := Tryz.underlying9
  a9 := Tryz.isAgg9
  z9 := Tryz.sizeOf9
  v9 := Tryz.zeroValue9
  t20 := Tryz.underlying20
  a20 := Tryz.isAgg20
  z20 := Tryz.sizeOf20
  v20 := Tryz.zeroValue20
  t37 := Tryz.underlying49
  a37 := Tryz.isAgg49
  z37 := Tryz.sizeOf49
  v37 := Tryz.zeroValue49
  t46 := Tryz.underlying121
  a46 := Tryz.isAgg121
  z46 := Tryz.sizeOf121
  v46 := Tryz.zeroValue121
  t51 := Tryz.underlying168
  a51 := Tryz.isAgg168
  z51 := Tryz.sizeOf168
  v51 := Tryz.zeroValue168
  t53 := Tryz.underlying80
  a53 := Tryz.isAgg80
  z53 := Tryz.sizeOf80
  v53 := Tryz.zeroValue80
  t171 := Tryz.underlying208
  a171 := Tryz.isAgg208
  z171 := Tryz.sizeOf208
  v171 := Tryz.zeroValue208
  t173 := Tryz.underlying211
  a173 := Tryz.isAgg211
  z173 := Tryz.sizeOf211
  v173 := Tryz.zeroValue211
  t212 := Tryz.underlying240
  a212 := Tryz.isAgg240
  z212 := Tryz.sizeOf240
  v212 := Tryz.zeroValue240
  t213 := Tryz.underlying241
  a213 := Tryz.isAgg241
  z213 := Tryz.sizeOf241
  t232 := Tryz.underlying282
  a232 := Tryz.isAgg282
  z232 := Tryz.sizeOf282
  v232 := Tryz.zeroValue282
  t233 := Tryz.underlying246
  a233 := Tryz.isAgg246
  z233 := Tryz.sizeOf246
  v233 := Tryz.zeroValue246
  g17 := by kernel_rfl
  g18 := by kernel_rfl
  g19 := by kernel_rfl
  i0 := by kernel_rfl
  i2 := by kernel_rfl
  i3 := by kernel_rfl
  i4 := by kernel_rfl
  i5 := by kernel_rfl
  i9 := by kernel_rfl
  i20 := by kernel_rfl
  i37 := by kernel_rfl
  i46 := by kernel_rfl
  i51 := by kernel_rfl
  i53 := by kernel_rfl
  i171 := by kernel_rfl
  i173 := by kernel_rfl
  i212 := by kernel_rfl
  i232 := by kernel_rfl
  i233 := by kernel_rfl
  m17 := by kernel_rfl
  m18 := by kernel_rfl
  m19 := by kernel_rfl }
open Go.RowKit Go.Sort Go.Lib in
theorem Tryz.strconv_Itoa (n : Int) (h0 : -9223372036854775808 ≤ n) (h1 : n ≤ 9223372036854775807) (w : World) (htab : Lib.TabIs Tryz.prog w "internal/strconv.uint64pow10" .u64 Lib.pow10Tab) :
    Calls Tryz.prog 17 #[.int .i64 n] w fun e w' => e = .returned (.string ⟨(Lib.itoa n).toArray⟩) ∧ ∃ k os, w' = grow (w.drewN k) os := Any.strconv_Itoa Tryz.laysM171 n h0 h1 w htab
def Tryz.lays212_ren : Go.Shelf.Ren := ⟨fun | 212 => 46 | 263 => 89 | 264 => 90 | n => n, fun | 46 => 121 | 51 => 168 | 146 => 169 | 53 => 80 | 148 => 171 | n => n, fun | n => n⟩
theorem Tryz.lays212 : Go.Proofs.Lays.n212 Tryz.prog Tryz.lays212_ren := {
  mixed := by kernel_rfl
  f212 := Tryz.func46.trans (congrArg some (by kernel_rfl))
  f263 := Tryz.func89.trans (congrArg some (by kernel_rfl))
  f264 := Tryz.func90.trans (congrArg some (by kernel_rfl))
  t46 := Tryz.underlying121
  a46 := Tryz.isAgg121
  z46 := Tryz.sizeOf121
  v46 := Tryz.zeroValue121
  t51 := Tryz.underlying168
  a51 := Tryz.isAgg168
  z51 := Tryz.sizeOf168
  v51 := Tryz.zeroValue168
  t53 := Tryz.underlying80
  a53 := Tryz.isAgg80
  z53 := Tryz.sizeOf80
  v53 := Tryz.zeroValue80
  t146 := Tryz.underlying169
  a146 := Tryz.isAgg169
  z146 := Tryz.sizeOf169
  v146 := Tryz.zeroValue169
  t148 := Tryz.underlying171
  a148 := Tryz.isAgg171
  z148 := Tryz.sizeOf171
  v148 := Tryz.zeroValue171 }
open Go.RowKit Go.Lib in
theorem Tryz.bits_Mul (x y : Nat) (hx : x < 18446744073709551616) (hy : y < 18446744073709551616) (w : World) :
    Calls Tryz.prog 46 #[.int .u64 x, .int .u64 y] w fun e w' => e = .returned (.tuple #[.int .u64 ((x * y / 18446744073709551616 : Nat) : Int), .int .u64 ((x * y % 18446744073709551616 : Nat) : Int)]) ∧ w' = w := Any.bits_Mul Tryz.lays212 x y hx hy w
def Tryz.lays105_ren : Go.Shelf.Ren := ⟨fun | 105 => 21 | 212 => 46 | 99 => 47 | 165 => 48 | 166 => 16 | 170 => 49 | 169 => 19 | 263 => 89 | 264 => 90 | 206 => 91 | 240 => 44 | 241 => 92 | 276 => 87 | 277 => 136 | n => n, fun | 9 => 9 | 3 => 3 | 4 => 4 | 20 => 20 | 0 => 0 | 46 => 121 | 109 => 122 | 5 => 5 | 72 => 51 | 76 => 54 | 51 => 168 | 146 => 169 | 53 => 80 | 148 => 171 | 70 => 48 | 37 => 49 | 75 => 53 | 127 => 120 | 164 => 165 | 80 => 57 | n => n, fun | n => n⟩
theorem Tryz.lays105 : Go.Proofs.Lays.n105 Tryz.prog Tryz.lays105_ren := {
  mixed := by kernel_rfl
  f99 := Tryz.func47.trans (congrArg some (by kernel_rfl))
  f105 := Tryz.func21.trans (congrArg some (by kernel_rfl))
  f165 := Tryz.func48.trans (congrArg some (by kernel_rfl))
  f166 := Tryz.func16.trans (congrArg some (by kernel_rfl))
  f169 := Tryz.func19.trans (congrArg some (by kernel_rfl))
  f170 := Tryz.func49.trans (congrArg some (by kernel_rfl))
  f206 := Tryz.func91.trans (congrArg some (by kernel_rfl))
  f212 := Tryz.func46.trans (congrArg some (by kernel_rfl))
  f240 := Tryz.func44.trans (congrArg some (by kernel_rfl))
  f241 := Tryz.func92.trans (congrArg some (by kernel_rfl))
  f263 := Tryz.func89.trans (congrArg some (by kernel_rfl))
  f264 := Tryz.func90.trans (congrArg some (by kernel_rfl))
  f276 := Tryz.func87.trans (congrArg some (by kernel_rfl))
  f277 := Tryz.func136.trans (congrArg some (by kernel_rfl))
  t0 := Tryz.underlying0
  a0 := Tryz.isAgg0
  z0 := Tryz.sizeOf0
  v0 := Tryz.zeroValue0
  t3 := Tryz.underlying3
  a3 := Tryz.isAgg3
  z3 := Tryz.sizeOf3
  v3 := Tryz.zeroValue3
  t4 := Tryz.underlying4
  a4 := Tryz.isAgg4
  z4 := Tryz.sizeOf4
  v4 := Tryz.zeroValue4
  t5 := Tryz.underlying5
  a5 := Tryz.isAgg5
  z5 := Tryz.sizeOf5
  v5 := Tryz.zeroValue5
  t9 := Tryz.underlying9
  a9 := Tryz.isAgg9
  z9 := Tryz.sizeOf9
  v9 := Tryz.zeroValue9
  t20 := Tryz.underlying20
  a20 := Tryz.isAgg20
  z20 := Tryz.sizeOf20
  v20 := Tryz.zeroValue20
  t37 := Tryz.underlying49
  a37 := Tryz.isAgg49
  z37 := Tryz.sizeOf49
  v37 := Tryz.zeroValue49
  t46 := Tryz.underlying121
  a46 := Tryz.isAgg121
  z46 := Tryz.sizeOf121
  v46 := Tryz.zeroValue121
  t51 := Tryz.underlying168
  a51 := Tryz.isAgg168
  z51 := Tryz.sizeOf168
  v51 := Tryz.zeroValue168
  t53 := Tryz.underlying80
  a53 := Tryz.isAgg80
  z53 := Tryz.sizeOf80
  v53 := Tryz.zeroValue80
  t70 := Tryz.underlying48
  a70 := Tryz.isAgg48
  z70 := Tryz.sizeOf48
  v70 := Tryz.zeroValue48
  t72 := Tryz.underlying51
  a72 := Tryz.isAgg51
  z72 := Tryz.sizeOf51
  v72 := Tryz.zeroValue51
  t75 := Tryz.underlying53
  a75 := Tryz.isAgg53
  z75 := Tryz.sizeOf53
  v75 := Tryz.zeroValue53
  t76 := Tryz.underlying54
  a76 := Tryz.isAgg54
  z76 := Tryz.sizeOf54
  v76 := Tryz.zeroValue54
  t109 := Tryz.underlying122
  a109 := Tryz.isAgg122
  z109 := Tryz.sizeOf122
  v109 := Tryz.zeroValue122
  t127 := Tryz.underlying120
  a127 := Tryz.isAgg120
  z127 := Tryz.sizeOf120
  v127 := Tryz.zeroValue120
  t146 := Tryz.underlying169
  a146 := Tryz.isAgg169
  z146 := Tryz.sizeOf169
  v146 := Tryz.zeroValue169
  t148 := Tryz.underlying171
  a148 := Tryz.isAgg171
  z148 := Tryz.sizeOf171
  v148 := Tryz.zeroValue171
  t164 := Tryz.underlying165
  a164 := Tryz.isAgg165
  z164 := Tryz.sizeOf165
  v164 := Tryz.zeroValue165 }
theorem Tryz.Builder_Extra_105 : Builder.Extra Tryz.prog Tryz.lays105_ren := {
  sizeBuilder := by kernel_rfl
  liesBuilder := by kernel_rfl
  t5 := Tryz.underlying5
  a5 := Tryz.isAgg5
  z5 := Tryz.sizeOf5
  v5 := Tryz.zeroValue5
  infoByte := by kernel_rfl
  cellsByte := by kernel_rfl
  sizeByte := by kernel_rfl
  neB5 := by decide }
open Go.RowKit Go.Lib in
theorem Tryz.strings_Repeat (s : ByteArray) (c : Nat) (w : World) (hc : c ≤ 9223372036854775807) (hlen : s.size * c ≤ 140737488355328) :
    Calls Tryz.prog 21 #[.string s, .int .i64 c] w fun e w' => e = .returned (.string ⟨(Lib.repeatL s.data.toList c).toArray⟩) ∧ Below w.heap.size w w' := Any.strings_Repeat Tryz.lays105 Tryz.Builder_Extra_105 s c w hc hlen
end Go.Proofs
namespace Go.Proofs.YtmnebimijlnlkaaGreatDoor.Abs
open Go Go.RowKit
theorem itoa_spec (n : Int) (h0 : -9223372036854775808 ≤ n) (h1 : n ≤ 9223372036854775807) (m : Mem) :
    Spec Tryz.prog 17 [.int .i64 n] m fun u M => u = .string (str (Lib.itoa n)) ∧ M = m :=
  Spec.of_below rfl fun ι w ys hy hr => by
    rw [flats_eq (by simp [flat]) hy]
    refine (Tryz.strconv_Itoa n h0 h1 w hr.glob.known.pow).mono ?_
    rintro e w' ⟨rfl, k, os, rfl⟩
    exact ⟨rfl, rfl, rfl, rfl, by show w.heap.size ≤ (w.heap ++ os).size; rw [Array.size_append]; omega, fun j hj => by show (w.heap ++ os)[j]? = _; rw [Array.getElem?_append_left hj]⟩
end Go.Proofs.YtmnebimijlnlkaaGreatDoor.Abs
namespace Go.Proofs.YtmnebimijlnlkaaGreatDoor.Abs
open Go Go.RowKit
theorem trim_spec (s : ByteArray) (c : UInt8) (hc : c.toNat < 128) (hs : s.size ≤ 9223372036854775807) (m : Mem) :
    Spec Tryz.prog 55 [.string s, .string (str [c])] m fun u M => u = .string (str (Lib.trimB s.data.toList c)) ∧ M = m :=
  Spec.of_below rfl fun ι w ys hy hr => by
    rw [flats_eq (by simp [flat]) hy]
    refine (Tryz.strings_Trim_one s c hc w hs).mono ?_
    rintro e w' ⟨rfl, rfl | rfl⟩
    · exact ⟨rfl, Below.refl _ _⟩
    · exact ⟨rfl, rfl, rfl, rfl, Nat.le_refl _, fun _ _ => rfl⟩
theorem cutPrefix_spec (s p : ByteArray) (m : Mem) :
    Spec Tryz.prog 54 [.string s, .string p] m fun u M => u = .tuple #[.string (str (Lib.trimPrefix s.data.toList p.data.toList)), .bool (Lib.hasPrefix s.data.toList p.data.toList)] ∧ M = m :=
  Spec.of_below rfl fun ι w ys hy hr => by
    rw [flats_eq (by simp [flat]) hy]
    refine (Tryz.strings_CutPrefix s p w).mono ?_
    rintro e w' ⟨rfl, rfl⟩
    exact ⟨rfl, Below.refl _ _⟩
theorem repeat_spec (s : ByteArray) (c : Nat) (hc : c ≤ 9223372036854775807) (hlen : s.size * c ≤ 140737488355328) (m : Mem) :
    Spec Tryz.prog 21 [.string s, .int .i64 c] m fun u M => u = .string (str (Lib.repeatL s.data.toList c)) ∧ M = m :=
  Spec.of_below rfl fun ι w ys hy hr => by
    rw [flats_eq (by simp [flat]) hy]
    refine (Tryz.strings_Repeat s c w hc hlen).mono ?_
    rintro e w' ⟨rfl, hb⟩
    exact ⟨rfl, hb⟩
theorem mul_spec (x y : Nat) (hx : x < 18446744073709551616) (hy : y < 18446744073709551616) (m : Mem) :
    Spec Tryz.prog 46 [.int .u64 x, .int .u64 y] m fun u M => u = .tuple #[.int .u64 ((x * y / 18446744073709551616 : Nat) : Int), .int .u64 ((x * y % 18446744073709551616 : Nat) : Int)] ∧ M = m :=
  Spec.of_below rfl fun ι w ys hys hr => by
    rw [flats_eq (by simp [flat]) hys]
    refine (Tryz.bits_Mul x y hx hy w).mono ?_
    rintro e w' ⟨rfl, rfl⟩
    exact ⟨rfl, Below.refl _ _⟩
end Go.Proofs.YtmnebimijlnlkaaGreatDoor.Abs
