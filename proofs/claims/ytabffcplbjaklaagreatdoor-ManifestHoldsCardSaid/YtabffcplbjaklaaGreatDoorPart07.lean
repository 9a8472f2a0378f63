/-
  The abstract machine walked with unknowns: what is known of a frame; the rules, operation by operation.
  The abstract machine walked with unknowns: regions that draw their order; contracts turned into the machine's, and back.
  From worlds to the abstract memory: whatever data come in, they stand in a memory of blocks that nobody writes.
  How a card's row follows from its law's walk: the listed variables hold what the program's text lays.
  The abstract machine over small memories: names of blocks given anew; what is not named any more is let go.
  The abstract machine over small memories: code, walked with names given anew at each joint.
  The abstract machine over small memories: a contract over the blocks that a call reaches, used in any memory.
-/
import Derived.Test.YtabffcplbjaklaaGreatDoorPart06
import Derived.RowKit
import Derived.Test.YtabffcplbjaklaaGreatDoorPart01
import Derived.SizedLaws
import Derived.Test.YtabffcplbjaklaaGreatDoorCards
import Derived.Test.YtabffcplbjaklaaGreatDoorTie
import Derived.Deep.DeepHandedRow
import Derived.Lib.LaidTab
import Derived.Lib.LaidU8
import Derived.Lay
import Derived.MakeChecks
import Derived.Shelf.Vars
set_option linter.unusedSimpArgs false
set_option linter.unusedVariables false
set_option linter.unusedSectionVars false
set_option linter.unnecessarySimpa false
set_option linter.defProp false
namespace Go.Proofs.YtabffcplbjaklaaGreatDoor.Abs
open Go
section
variable [Defs]
abbrev AL := List (Nat × Value)
def AL.get : AL → Nat → Option Value
  | [], _ => none
  | (s, v) :: r, t => if s = t then some v else AL.get r t
def Knows (n : Nat) (f : AL) (a : List Value) : Prop := a.length = n ∧ ∀ t v, AL.get f t = some v → a[t]? = some v
def AL.look (f : AL) (x : Operand) : Option Value := match x with
  | .tmp t => AL.get f t
  | .const v => if flat 3 v = true then some v else none
  | .func k => some (.func (.func k) #[] #[])
  | .global _ => none
theorem Knows.look {n : Nat} {f : AL} {a : List Value} (h : Knows n f a) (x : Operand) (v : Value) (hx : AL.look f x = some v) : aEval a x = some v := by
  cases x with
  | tmp t => exact h.2 t v hx
  | const c => exact hx
  | func k => exact hx
  | global g => cases hx
theorem Knows.put {n : Nat} {f : AL} {a : List Value} (h : Knows n f a) {t : Nat} (ht : t < n) (v : Value) : Knows n ((t, v) :: f) (a.set t v) := by
  refine ⟨by simp [h.1], fun s u hs => ?_⟩
  simp only [AL.get] at hs
  rw [List.getElem?_set]
  split at hs
  · rename_i e
    rw [if_pos e, if_pos (by rw [h.1]; exact ht)]
    exact hs
  · rename_i e
    rw [if_neg e]
    exact h.2 s u hs
class Box (α : Type) where
  k : α
def sPut (n : Nat) (d : Option Nat) (v : Value) (f : AL) [c : Box (AL → Prop)] : Prop := match d with
  | none => c.k f
  | some t => t < n ∧ c.k ((t, v) :: f)
theorem sPut_spec {n : Nat} {d : Option Nat} {v : Value} {f : AL} {k : AL → Prop} (h : @sPut n d v f ⟨k⟩) {a : List Value} (ha : Knows n f a) : ∃ f', Knows n f' (aPut a d v) ∧ k f' := by
  cases d with
  | none => exact ⟨f, ha, h⟩
  | some t => exact ⟨_, ha.put h.1 v, h.2⟩
def aBinI (op : BinOp) (k : IntKind) (a : Int) (k' : IntKind) (b : Int) : Option Value := match op with
  | .shl => if 0 ≤ b then some (.int k (k.wrap (a * 2 ^ min b.toNat k.bits))) else none
  | .shr => if 0 ≤ b then some (.int k (a.fdiv (2 ^ min b.toNat k.bits))) else none
  | op => if k = k' then aInt op k a b else none
theorem aBin_ii (P : Program) (op : BinOp) (t : TypeId) (cx : Bool) (k k' : IntKind) (a b : Int) : aBin P op t cx (.int k a) (.int k' b) = aBinI op k a k' b := by cases op <;> rfl
theorem aBin_ss (P : Program) (op : BinOp) (t : TypeId) (cx : Bool) (a b : ByteArray) : aBin P op t cx (.string a) (.string b) = aStr op a b := rfl
def withV {α : Type} (o : Option α) [c : Box (α → Prop)] : Prop := match o with
  | some v => c.k v
  | none => False
theorem withV_some {α : Type} (v : α) (k : α → Prop) : @withV α (some v) ⟨k⟩ = k v := rfl
def Later [c : Box Prop] : Prop := c.k
theorem withV_ite {α : Type} (c : Prop) [Decidable c] (o : Option α) (k : α → Prop) : @withV α (if c then o else none) ⟨k⟩ = (c ∧ @withV α o ⟨k⟩) := by
  by_cases h : c <;> simp [h, withV]
theorem withV_spec {α : Type} {o : Option α} {k : α → Prop} (h : @withV α o ⟨k⟩) : ∃ v, o = some v ∧ k v := by
  cases o with
  | none => exact h.elim
  | some v => exact ⟨v, rfl, h⟩
def sArgs (g : Look) : List Operand → Option (List Value)
  | [] => some []
  | x :: r => match g x with
    | some v => match sArgs g r with
      | some l => some (v :: l)
      | none => none
    | none => none
def sParts (g : Look) : List (Nat × Operand) → Option (List (Nat × Value))
  | [] => some []
  | (i, x) :: r => match g x with
    | some v => match sParts g r with
      | some l => some ((i, v) :: l)
      | none => none
    | none => none
def sBin (P : Program) (op : BinOp) (t : TypeId) (cx : Bool) (x y : Option Value) : Option Value := match x, y with
  | some u, some v => aBin P op t cx u v
  | _, _ => none
def sConv (P : Program) (get : Nat → Option Blk) (s d : TypeId) (x : Option Value) : Option Value := match x with
  | some (.int _ n) => match P.underlying s with
    | some _ => match P.underlying d with
      | some (.int k) => some (.int k (k.wrap n))
      | _ => none
    | none => none
  | some (.string q) => match P.underlying d with
    | some .string => match P.underlying s with | some _ => some (.string q) | none => none
    | _ => none
  | some x => gToString P get s d x
  | none => none
def sLookup (P : Program) (get : Nat → Option Blk) (t : TypeId) (x k : Option Value) (ok : Bool) : Option Value := match x with
  | some v => match k with
    | some i => aLookup P get t v i ok
    | none => none
  | none => none
def sEntry (get : Nat → Option Blk) (x : Option Value) : Option Value := match x with
  | some v => aEntry get v
  | none => none
def sVal (P : Program) (g : Look) (get : Nat → Option Blk) (o : Op) : Option Value :=
  match o with
  | .move x => g x
  | .assign x => g x
  | .pick c x y => vPick (g c) (g x) (g y)
  | .build t ps => vBuild P t (sParts g ps.toList)
  | .load t p => vLoad P get t (g p)
  | .nilCheck x => vNil (g x)
  | .binOp op t x y _ => sBin P op t (isC x || isC y) (g x) (g y)
  | .unOp op _ x => vUn op (g x)
  | .convert s d x => sConv P get s d (g x)
  | .makeInterface t x => vIface P t (g x)
  | .makeFunc fn fs cs => vFunc fn (sArgs g fs.toList) (sArgs g cs.toList)
  | .slice t x lo hi mx => vSlice P get t (g x) (fOpt g lo) (fOpt g hi) mx
  | .fieldAddr t x f => vFieldAddr P t (g x) f
  | .field t x f => vField P t (g x) f
  | .indexAddr t x i => vIndexAddr P t (g x) (g i)
  | .index t x i => vIndex P t (g x) (g i)
  | .extract x i => vExtract (g x) i
  | .call c => vCall P c.callee c.argTypes.toList (sArgs g c.args.toList)
  | .lookup t x k ok => sLookup P get t (g x) (g k) ok
  | .entry x => sEntry get (g x)
  | _ => none
theorem sArgs_eq (g : Look) : ∀ l, sArgs g l = fArgs g l
  | [] => rfl
  | x :: r => by
    have e : fArgs g (x :: r) = match g x with | some v => (match fArgs g r with | some r => some (v :: r) | none => none) | none => none := rfl
    rw [e, ← sArgs_eq g r]; rfl
theorem sParts_eq (g : Look) : ∀ l, sParts g l = fParts g l
  | [] => rfl
  | (i, x) :: r => by
    have e : fParts g ((i, x) :: r) = match g x with | some v => (match fParts g r with | some l => some ((i, v) :: l) | none => none) | none => none := rfl
    rw [e, ← sParts_eq g r]; rfl
theorem sVal_spec {P : Program} {g : Look} {a : List Value} (hg : ∀ x v, g x = some v → aEval a x = some v) {get : Nat → Option Blk} {m : Mem} (hm : ∀ b x, get b = some x → m.get b = some x) {o : Op} {v : Value} (h : sVal P g get o = some v) : evOp P o a m = some (v, m) := by
  by_cases hb : ∃ op t x y ty, o = .binOp op t x y ty
  · obtain ⟨op, t, x, y, ty, rfl⟩ := hb
    simp only [sVal] at h
    unfold sBin at h
    split at h <;> first | (cases h; done) | skip
    rename_i u w hu hw
    simp only [evOp, hg x u hu, hg y w hw, h, pureV]
  by_cases hc : ∃ s d x, o = .convert s d x
  · obtain ⟨s, d, x, rfl⟩ := hc
    simp only [sVal] at h
    unfold sConv at h
    split at h <;> first | (cases h; done) | skip
    · rename_i k n hx
      split at h <;> first | (cases h; done) | skip
      rename_i hs
      split at h <;> first | (cases h; done) | skip
      rename_i k' hd
      cases h
      simp only [evOp, hg x _ hx, evConvert, hs, hd]
    · rename_i q hx
      split at h <;> first | (cases h; done) | skip
      rename_i hd
      split at h <;> first | (cases h; done) | skip
      rename_i hs
      cases h
      simp only [evOp, hg x _ hx, evConvert, hd, hs]
    · rename_i u hne hne' hx
      have : aToString P m s d u = some v := gToString_mono hm h
      simp only [evOp, hg x _ hx]
      unfold evConvert
      split
      · exact absurd rfl (hne _ _)
      · exact absurd rfl (hne' _)
      · simp only [this]
  by_cases he : ∃ x, o = .entry x
  · obtain ⟨x, rfl⟩ := he
    simp only [sVal] at h
    unfold sEntry at h
    split at h <;> first | (cases h; done) | skip
    rename_i u hu
    simp only [evOp, hg x u hu, aEntry_mono hm h, pureV]
  by_cases hl : ∃ t x k ok, o = .lookup t x k ok
  · obtain ⟨t, x, k, ok, rfl⟩ := hl
    simp only [sVal] at h
    unfold sLookup at h
    split at h <;> first | (cases h; done) | skip
    rename_i u hu
    split at h <;> first | (cases h; done) | skip
    rename_i i hi
    simp only [evOp, hg x u hu, hg k i hi, aLookup_mono hm h, pureV]
  have e : fVal P g get o = sVal P g get o := by
    cases o <;> simp only [fVal, sVal, sArgs_eq, sParts_eq] <;> first | rfl | skip
    · exact absurd ⟨_, _, _, _, _, rfl⟩ hb
    · exact absurd ⟨_, _, _, rfl⟩ hc
    · exact absurd ⟨_, _, _, _, rfl⟩ hl
    · exact absurd ⟨_, rfl⟩ he
  exact fVal_spec hg hm (by rw [e]; exact h)
def nBox (P : Program) (t : TypeId) (v : Value) : Option Blk := if oneAll v.cells.toList = true then some (.cells false (aStride P t) v.cells.toList) else none
def nAlloc (P : Program) (t : TypeId) : Option Blk :=
  match P.info? t with
  | some i => match i.zero with
    | some z => if flat 3 z = true then nBox P t z else none
    | none => none
  | none => none
def nBuildSlice (P : Program) (t : TypeId) (len : Nat) (parts : List (Nat × Value)) : Option Blk :=
  match P.underlying t with
  | some (.slice e) => match P.info? e with
    | some ie => match ie.zero with
      | some z => if flat 3 z = true ∧ len * ie.size ≤ 16777216 ∧ 0 < z.cells.toList.length ∧ oneAll z.cells.toList = true ∧ parts.all (fun p => oneAll p.2.cells.toList) = true then
          match aFill (fun i => some (i * ie.size, ie.size)) (aZeros z.cells.toList (len * ie.size)) parts with
          | some cs => some (.cells false ie.size cs)
          | none => none
        else none
      | none => none
    | none => none
  | _ => none
def nToBytes (P : Program) (src dst : TypeId) (s : ByteArray) : Option Blk :=
  match P.underlying src with
  | some .string => match P.underlying dst with
    | some (.slice e) => match P.underlying e with
      | some (.int .u8) => if bsize s ≤ 140737488355328 then some (.cells false 1 (byteCells' s)) else none
      | _ => none
    | _ => none
  | _ => none
def sNew (P : Program) (g : Look) (n : Nat) (o : Op) : Option (Value × Blk) :=
  match o with
  | .alloc t => match nAlloc P t with
    | some b => some (.pointer (some ⟨n, 0, none⟩), b)
    | none => none
  | .box t x => match g x with
    | some v => match nBox P t v with
      | some b => some (.pointer (some ⟨n, 0, none⟩), b)
      | none => none
    | none => none
  | .buildSlice t len ps => match sParts g ps.toList with
    | some l => match nBuildSlice P t len l with
      | some b => some (.slice (some ⟨n, 0, none⟩) len len, b)
      | none => none
    | none => none
  | .convert s d x => match g x with
    | some (.string q) => match P.underlying d with
      | some .string => none
      | _ => match nToBytes P s d q with
        | some b => some (.slice (some ⟨n, 0, none⟩) (bsize q) (bsize q), b)
        | none => none
    | _ => none
  | .makeMap _ r => match r with
    | none => some (.map (some n), .kv false [] 0)
    | some _ => none
  | _ => none
theorem nBox_spec {P : Program} {m : Mem} {t : TypeId} {v : Value} {b : Blk} (h : nBox P t v = some b) : aBox P m t v = some (.pointer (some ⟨m.size, 0, none⟩), m.push b) ∧ ownB (some b) = true := by
  unfold nBox at h
  unfold aBox
  split at h <;> first | (cases h; done) | skip
  rename_i hc
  cases h
  rw [if_pos hc]
  exact ⟨rfl, rfl⟩
theorem sNew_spec {P : Program} {g : Look} {a : List Value} (hg : ∀ x v, g x = some v → aEval a x = some v) {m : Mem} {o : Op} {v : Value} {b : Blk} (h : sNew P g m.size o = some (v, b)) : evOp P o a m = some (v, m.push b) ∧ ownB (some b) = true := by
  cases o <;> simp only [sNew] at h <;> first | (cases h; done) | skip
  case alloc t =>
    split at h <;> first | (cases h; done) | skip
    rename_i b' hb
    cases h
    unfold nAlloc at hb
    split at hb <;> first | (cases hb; done) | skip
    rename_i i hi
    split at hb <;> first | (cases hb; done) | skip
    rename_i z hz
    split at hb <;> first | (cases hb; done) | skip
    rename_i hf
    obtain ⟨h1, h2⟩ := nBox_spec (m := m) hb
    exact ⟨by simp only [evOp, aAlloc, hi, hz, if_pos hf, h1], h2⟩
  case box t x =>
    split at h <;> first | (cases h; done) | skip
    rename_i u hu
    split at h <;> first | (cases h; done) | skip
    rename_i b' hb
    cases h
    obtain ⟨h1, h2⟩ := nBox_spec (m := m) hb
    exact ⟨by simp only [evOp, hg x u hu, h1], h2⟩
  case buildSlice t len ps =>
    split at h <;> first | (cases h; done) | skip
    rename_i l hl
    rw [sParts_eq] at hl
    split at h <;> first | (cases h; done) | skip
    rename_i b' hb
    cases h
    unfold nBuildSlice at hb
    split at hb <;> first | (cases hb; done) | skip
    rename_i e hu
    split at hb <;> first | (cases hb; done) | skip
    rename_i ie hi
    split at hb <;> first | (cases hb; done) | skip
    rename_i z hz
    split at hb <;> first | (cases hb; done) | skip
    rename_i hc
    split at hb <;> first | (cases hb; done) | skip
    rename_i cs hcs
    cases hb
    exact ⟨by simp only [evOp, fParts_spec hg _ hl, aBuildSlice, hu, hi, hz, if_pos hc, hcs], rfl⟩
  case convert s d x =>
    split at h <;> first | (cases h; done) | skip
    rename_i q hx
    split at h <;> first | (cases h; done) | skip
    rename_i hne
    split at h <;> first | (cases h; done) | skip
    rename_i b' hb
    cases h
    unfold nToBytes at hb
    split at hb <;> first | (cases hb; done) | skip
    rename_i hs
    split at hb <;> first | (cases hb; done) | skip
    rename_i e hd
    split at hb <;> first | (cases hb; done) | skip
    rename_i he
    split at hb <;> first | (cases hb; done) | skip
    rename_i hc
    cases hb
    exact ⟨by simp only [evOp, hg x _ hx, evConvert, hd, aToBytes, hs, he, if_pos hc], rfl⟩
  case makeMap t r =>
    cases r <;> simp only at h <;> first | (cases h; done) | skip
    cases h
    exact ⟨rfl, rfl⟩
def sMem (P : Program) (g : Look) (m : Mem) (o : Op) : Option (Value × Mem) :=
  match o with
  | .store t p x => match g p with
    | some q => match g x with
      | some v => match aStore P m t q v with
        | some m' => some (undef, m')
        | none => none
      | none => none
    | none => none
  | .makeSlice t l c => match g l with
    | some u => match g c with
      | some v => aMakeSlice P m t u v
      | none => none
    | none => none
  | .call c => match c.callee with
    | .builtin b => match b with
      | .append => match c.argTypes.toList with
        | [t, tx] => match sArgs g c.args.toList with
          | some [s, x] => aAppend P m t tx s x
          | _ => none
        | _ => none
      | .copy => match c.argTypes.toList with
        | [t, tx] => match sArgs g c.args.toList with
          | some [s, x] => aCopy P m t tx s x
          | _ => none
        | _ => none
      | .clear => match c.argTypes.toList with
        | [t] => match sArgs g c.args.toList with
          | some [x] => match aClear P m t x with
            | some m' => some (.tuple #[], m')
            | none => none
          | _ => none
        | _ => none
      | _ => none
    | _ => none
  | .mapUpdate t x k y => match g x with
    | some v => match g k with
      | some i => match g y with
        | some u => match aMapUpdate P m t v i u with
          | some m' => some (undef, m')
          | none => none
        | none => none
      | none => none
    | none => none
  | .range t x => match g x with
    | some v => aRange P m t v
    | none => none
  | _ => none
theorem sMem_spec {P : Program} {g : Look} {a : List Value} (hg : ∀ x v, g x = some v → aEval a x = some v) {m m' : Mem} {o : Op} {v : Value} (h : sMem P g m o = some (v, m')) : evOp P o a m = some (v, m') := by
  cases o <;> simp only [sMem] at h <;> first | (cases h; done) | skip
  case store t p x =>
    split at h <;> first | (cases h; done) | skip
    rename_i q hq
    split at h <;> first | (cases h; done) | skip
    rename_i u hu
    split at h <;> first | (cases h; done) | skip
    rename_i m1 h1
    cases h
    simp only [evOp, hg p q hq, hg x u hu, h1]
  case makeSlice t l c =>
    split at h <;> first | (cases h; done) | skip
    rename_i u hu
    split at h <;> first | (cases h; done) | skip
    rename_i q hq
    simp only [evOp, hg l u hu, hg c q hq, h]
  case call c =>
    obtain ⟨callee, args, ts⟩ := c
    cases callee <;> simp only at h <;> first | (cases h; done) | skip
    rename_i b
    cases b <;> simp only at h <;> first | (cases h; done) | skip
    case append =>
      split at h <;> first | (cases h; done) | skip
      rename_i t tx ht
      split at h <;> first | (cases h; done) | skip
      rename_i s x hxs
      rw [sArgs_eq] at hxs
      simp only [evOp, fArgs_spec hg _ hxs, evBuiltin, ht, h]
    case copy =>
      split at h <;> first | (cases h; done) | skip
      rename_i t tx ht
      split at h <;> first | (cases h; done) | skip
      rename_i s x hxs
      rw [sArgs_eq] at hxs
      simp only [evOp, fArgs_spec hg _ hxs, evBuiltin, ht, h]
    case clear =>
      split at h <;> first | (cases h; done) | skip
      rename_i t ht
      split at h <;> first | (cases h; done) | skip
      rename_i x hxs
      split at h <;> first | (cases h; done) | skip
      rename_i m1 h1
      cases h
      rw [sArgs_eq] at hxs
      simp only [evOp, fArgs_spec hg _ hxs, evBuiltin, ht, h1]
  case mapUpdate t x k y =>
    split at h <;> first | (cases h; done) | skip
    rename_i u hu
    split at h <;> first | (cases h; done) | skip
    rename_i i hi
    split at h <;> first | (cases h; done) | skip
    rename_i y hy
    split at h <;> first | (cases h; done) | skip
    rename_i m1 h1
    cases h
    simp only [evOp, hg x u hu, hg k i hi, hg _ _ hy, h1]
  case range t x =>
    split at h <;> first | (cases h; done) | skip
    rename_i u hu
    simp only [evOp, hg x u hu, h]
def sAny (g : Look) (o : Op) (m : Mem) : Option (Value → Mem → Prop) := match o with
  | .next it isS => match isS with
    | false => match g it with
      | some v => aNext m v
      | none => none
    | true => none
  | _ => none
theorem sAny_spec {g : Look} {a : List Value} (hg : ∀ x v, g x = some v → aEval a x = some v) {m : Mem} {o : Op} {R : Value → Mem → Prop} (h : sAny g o m = some R) : evAny o a m = some R := by
  cases o <;> simp only [sAny] at h <;> first | (cases h; done) | skip
  rename_i it isS
  cases isS <;> simp only at h <;> first | (cases h; done) | skip
  split at h <;> first | (cases h; done) | skip
  rename_i v hv
  simp only [evAny, hg it v hv, h]
inductive Kind | val | new | mem | fn | any
def kindB (b : Builtin) : Kind := match b with
  | .append => .mem
  | .clear => .mem
  | .copy => .mem
  | _ => .val
def kindC (c : Callee) : Kind := match c with
  | .builtin b => kindB b
  | _ => .fn
def kindT (d : Option TypeDesc) : Kind := match d with
  | some (.slice _) => .new
  | _ => .val
def kind (P : Program) (o : Op) : Kind :=
  match o with
  | .alloc _ => .new
  | .box .. => .new
  | .buildSlice .. => .new
  | .store .. => .mem
  | .makeSlice .. => .mem
  | .makeMap .. => .new
  | .mapUpdate .. => .mem
  | .range .. => .mem
  | .next .. => .any
  | .convert _ d _ => kindT (P.underlying d)
  | .call c => kindC c.callee
  | _ => .val
def sCallee (g : Look) (o : Op) : Option (FuncId × List Value) := match o with
  | .call c => match c.callee with
    | .value f => match g f with
      | some (.func (.func k) fs cs) => match sArgs g c.args.toList with
        | some xs => some (k, fs.toList ++ xs ++ cs.toList)
        | none => none
      | _ => none
    | _ => none
  | _ => none
theorem sCallee_eq (g : Look) (o : Op) : sCallee g o = fCallee g o := by
  cases o <;> simp only [sCallee, fCallee, sArgs_eq] <;> rfl
def sOp (P : Program) (o : Op) (f : AL) (m : Mem) [c : Box (Value → Mem → Prop)] : Prop :=
  match kind P o with
  | .val => @withV _ (sVal P (AL.look f) m.get o) ⟨fun v => c.k v m⟩
  | .new => @withV _ (sNew P (AL.look f) m.size o) ⟨fun p => c.k p.1 (m.push p.2)⟩
  | .mem => @withV _ (sMem P (AL.look f) m o) ⟨fun p => c.k p.1 p.2⟩
  | .fn => @withV _ (sCallee (AL.look f) o) ⟨fun p => entered P p.1 = true ∧ ∃ R, Spec P p.1 p.2 m R ∧ @Later ⟨∀ v m', R v m' → c.k v m'⟩⟩
  | .any => @withV _ (sAny (AL.look f) o m) ⟨fun R => @Later ⟨∀ v m', R v m' → c.k v m'⟩⟩
def sGuard (all : List Oper) (o : Oper) (f : AL) [y : Box (Unit → Prop)] [n : Box (Nat → Prop)] : Prop := match o.guard with
  | none => y.k ()
  | some (j, w) => match all[j]? with
    | some p => match p.dst with
      | some t => match AL.get f t with
        | some (.bool b) => if Region.wanted o (fun _ => some b) = true then y.k () else n.k 0
        | some (.tuple _) => if Region.wanted o (fun _ => none) = true then y.k () else n.k 0
        | _ => False
      | none => False
    | none => False
theorem sGuard_spec {all : List Oper} {o : Oper} {f : AL} {y n : Prop} (h : @sGuard all o f ⟨fun _ => y⟩ ⟨fun _ => n⟩) {k : Nat} {a : List Value} (ha : Knows k f a) : (Region.wanted o (aYielded all a) = true ∧ y) ∨ (Region.wanted o (aYielded all a) = false ∧ n) := by
  unfold sGuard at h
  split at h
  · rename_i hg
    left
    exact ⟨by unfold Region.wanted; rw [hg], h⟩
  · rename_i j w hg
    have key : ∀ r : Option Bool, aYielded all a j = r → Region.wanted o (aYielded all a) = Region.wanted o fun _ => r := fun r hr =>
      wanted_congr o fun i b hi => by rw [hg] at hi; cases hi; exact hr
    split at h <;> first | exact h.elim | skip
    rename_i p hp
    split at h <;> first | exact h.elim | skip
    rename_i t ht
    split at h <;> first | exact h.elim | skip
    · rename_i b hb
      rw [key (some b) (by simp only [aYielded, hp, ht, ha.2 t _ hb])]
      split at h
      · rename_i hw; exact .inl ⟨hw, h⟩
      · rename_i hw; exact .inr ⟨by simpa using hw, h⟩
    · rename_i cs hb
      rw [key none (by simp only [aYielded, hp, ht, ha.2 t _ hb])]
      split at h
      · rename_i hw; exact .inl ⟨hw, h⟩
      · rename_i hw; exact .inr ⟨by simpa using hw, h⟩
def sWant (all : List Oper) (o : Oper) (f : AL) : Option Bool := match o.guard with
  | none => some true
  | some (j, w) => match all[j]? with
    | some p => match p.dst with
      | some t => match AL.get f t with
        | some (.bool b) => some (Region.wanted o fun _ => some b)
        | some (.tuple _) => some (Region.wanted o fun _ => none)
        | _ => none
      | none => none
    | none => none
theorem sWant_spec {all : List Oper} {o : Oper} {f : AL} {b : Bool} (h : sWant all o f = some b) {k : Nat} {a : List Value} (ha : Knows k f a) : Region.wanted o (aYielded all a) = b := by
  unfold sWant at h
  split at h
  · rename_i hg
    cases h
    unfold Region.wanted
    rw [hg]
  · rename_i j w hg
    have key : ∀ r : Option Bool, aYielded all a j = r → Region.wanted o (aYielded all a) = Region.wanted o fun _ => r := fun r hr =>
      wanted_congr o fun i b hi => by rw [hg] at hi; cases hi; exact hr
    split at h <;> first | (cases h; done) | skip
    rename_i p hp
    split at h <;> first | (cases h; done) | skip
    rename_i t ht
    split at h <;> first | (cases h; done) | skip
    · rename_i b hb
      cases h
      exact key (some b) (by simp only [aYielded, hp, ht, ha.2 t _ hb])
    · rename_i cs hb
      cases h
      exact key none (by simp only [aYielded, hp, ht, ha.2 t _ hb])
def sFun (P : Program) (o : Op) (f : AL) (m : Mem) : Option (Value × Mem) := match kind P o with
  | .val => match sVal P (AL.look f) m.get o with
    | some v => some (v, m)
    | none => none
  | .new => match sNew P (AL.look f) m.size o with
    | some p => some (p.1, m.push p.2)
    | none => none
  | .mem => sMem P (AL.look f) m o
  | .fn => none
  | .any => none
theorem sFun_spec {P : Program} {o : Op} {f : AL} {m m' : Mem} {v : Value} (h : sFun P o f m = some (v, m')) {k : Nat} {a : List Value} (ha : Knows k f a) : evOp P o a m = some (v, m') := by
  have hg := ha.look
  unfold sFun at h
  split at h
  · split at h <;> first | (cases h; done) | skip
    rename_i u hu
    cases h
    exact sVal_spec hg (fun _ _ h => h) hu
  · split at h <;> first | (cases h; done) | skip
    rename_i p hp
    cases h
    exact (sNew_spec hg hp).1
  · exact sMem_spec hg h
  · cases h
  · cases h
def sGuarded (w : Option Bool) (x : Option (Value × Mem)) (m : Mem) : Option (Value × Mem) := match w with
  | some true => x
  | some false => some (undef, m)
  | none => none
def isFn : Kind → Bool
  | .fn => true
  | .any => true
  | _ => false
def sOne (P : Program) (n : Nat) (all : List Oper) (o : Oper) (f : AL) (m : Mem) [c : Box (AL → Mem → Prop)] : Prop := match o.guard with
  | none => @sOp P o.op f m ⟨fun v m' => @sPut n o.dst v f ⟨fun f' => c.k f' m'⟩⟩
  | some _ => match isFn (kind P o.op) with
    | false => @withV _ (sGuarded (sWant all o f) (sFun P o.op f m) m) ⟨fun p => @sPut n o.dst p.1 f ⟨fun f' => c.k f' p.2⟩⟩
    | true => @sGuard all o f ⟨fun _ => @sOp P o.op f m ⟨fun v m' => @sPut n o.dst v f ⟨fun f' => c.k f' m'⟩⟩⟩ ⟨fun _ => @sPut n o.dst undef f ⟨fun f' => c.k f' m⟩⟩
def sOpsB (P : Program) (n : Nat) (all : List Oper) [K : Box (AL → Mem → Prop)] : List Oper → AL → Mem → Prop
  | [], f, m => K.k f m
  | o :: r, f, m => @sOne P n all o f m ⟨sOpsB P n all r⟩
def sOps (P : Program) (n : Nat) (all : List Oper) (K : AL → Mem → Prop) (l : List Oper) (f : AL) (m : Mem) : Prop := @sOpsB P n all ⟨K⟩ l f m
theorem sOp_run {P : Program} {n : Nat} {all : List Oper} {o : Oper} {f : AL} {m : Mem} {a : List Value} {Q : List Value → Mem → Prop} {r : List Oper} (ha : Knows n f a) (hw : Region.wanted o (aYielded all a) = true) {next : AL → Mem → Prop}
    (h : @sOp P o.op f m ⟨fun v m' => @sPut n o.dst v f ⟨fun f' => next f' m'⟩⟩) (hn : ∀ f' m' a', Knows n f' a' → next f' m' → aOps P all Q r a' m') : aOps P all Q (o :: r) a m := by
  simp only [aOps]
  rw [if_pos hw]
  have hg := ha.look
  unfold sOp at h
  split at h
  · obtain ⟨v, h1, h2⟩ := withV_spec h
    obtain ⟨f', h3, h4⟩ := sPut_spec h2 ha
    exact .inl ⟨v, m, sVal_spec hg (fun _ _ h => h) h1, hn f' m _ h3 h4⟩
  · obtain ⟨⟨v, b⟩, h1, h2⟩ := withV_spec h
    obtain ⟨f', h3, h4⟩ := sPut_spec h2 ha
    exact .inl ⟨v, _, (sNew_spec hg h1).1, hn f' _ _ h3 h4⟩
  · obtain ⟨⟨v, m1⟩, h1, h2⟩ := withV_spec h
    obtain ⟨f', h3, h4⟩ := sPut_spec h2 ha
    exact .inl ⟨v, m1, sMem_spec hg h1, hn f' _ _ h3 h4⟩
  · obtain ⟨⟨k, xs⟩, h1, he, R, hsp, h2⟩ := withV_spec h
    rw [sCallee_eq] at h1
    refine .inr (.inl ⟨k, xs, R, fCallee_spec hg h1, he, hsp, fun v m' hR => ?_⟩)
    obtain ⟨f', h3, h4⟩ := sPut_spec (h2 v m' hR) ha
    exact hn f' _ _ h3 h4
  · obtain ⟨R, h1, h2⟩ := withV_spec h
    refine .inr (.inr ⟨R, sAny_spec hg h1, fun v m' hR => ?_⟩)
    obtain ⟨f', h3, h4⟩ := sPut_spec (h2 v m' hR) ha
    exact hn f' _ _ h3 h4
theorem sOps_run {P : Program} {n : Nat} {all : List Oper} {K : AL → Mem → Prop} {Q : List Value → Mem → Prop} (hK : ∀ f m a, Knows n f a → K f m → Q a m) : ∀ (l : List Oper) (f : AL) (m : Mem) (a : List Value), Knows n f a → sOps P n all K l f m → aOps P all Q l a m
  | [], f, m, a, ha, h => hK f m a ha h
  | o :: r, f, m, a, ha, h => by
    have next : ∀ f' m' a', Knows n f' a' → sOps P n all K r f' m' → aOps P all Q r a' m' := fun f' m' a' h1 h2 => sOps_run hK r f' m' a' h1 h2
    simp only [sOps, sOpsB, sOne] at h
    have skip : Region.wanted o (aYielded all a) = false → (@sPut n o.dst undef f ⟨fun f' => sOps P n all K r f' m⟩) → aOps P all Q (o :: r) a m := fun hw h => by
      simp only [aOps]
      rw [if_neg (by rw [hw]; simp)]
      obtain ⟨f', h3, h4⟩ := sPut_spec h ha
      exact next f' _ _ h3 h4
    split at h
    · rename_i hg
      exact sOp_run ha (by unfold Region.wanted; rw [hg]) h next
    · split at h
      · obtain ⟨⟨v, m'⟩, h1, h2⟩ := withV_spec h
        unfold sGuarded at h1
        split at h1
        · rename_i hw
          obtain ⟨f', h3, h4⟩ := sPut_spec h2 ha
          simp only [aOps]
          rw [if_pos (sWant_spec hw ha)]
          exact .inl ⟨v, m', sFun_spec h1 ha, next f' _ _ h3 h4⟩
        · rename_i hw
          cases h1
          exact skip (sWant_spec hw ha) h2
        · cases h1
      · rcases sGuard_spec h ha with ⟨hw, h⟩ | ⟨hw, h⟩
        · exact sOp_run ha hw h next
        · exact skip hw h
def SW (P : Program) (n : Nat) (c : Code) (Q : Exit → AL → Mem → Prop) (f : AL) (m : Mem) : Prop :=
  ∀ a, Knows n f a → AW P c (fun e a' m' => ∃ f', Knows n f' a' ∧ Q e f' m') a m
section
variable {P : Program} {n : Nat} {Q : Exit → AL → Mem → Prop} {f : AL} {m : Mem}
theorem SW.mono {c : Code} {Q' : Exit → AL → Mem → Prop} (h : SW P n c Q f m) (hq : ∀ e f m, Q e f m → Q' e f m) : SW P n c Q' f m :=
  fun a ha => (h a ha).mono fun _ _ _ ⟨f', h1, h2⟩ => ⟨f', h1, hq _ _ _ h2⟩
theorem SW_skip (h : Q .normal f m) : SW P n .skip Q f m := fun _ ha => AW_skip ⟨f, ha, h⟩
theorem SW_exit {i : Nat} (h : Q (.exit i) f m) : SW P n (.exit i) Q f m := fun _ ha => AW_exit ⟨f, ha, h⟩
theorem SW_ret (h : Q .ret f m) : SW P n .ret Q f m := fun _ ha => AW_ret ⟨f, ha, h⟩
def sThen (next : AL → Mem → Prop) (Q : Exit → AL → Mem → Prop) : Exit → AL → Mem → Prop
  | .normal, f, m => next f m
  | e, f, m => Q e f m
def sBlock (i : Nat) (Q : Exit → AL → Mem → Prop) : Exit → AL → Mem → Prop
  | .exit j, f, m => if j = i then Q .normal f m else Q (.exit j) f m
  | e, f, m => Q e f m
theorem SW_loop {c : Code} (I : Nat → AL → Mem → Prop) (k₀ : Nat) (h₀ : I k₀ f m) (round : ∀ k f m, I k f m → SW P n c (sThen (fun f' m' => ∃ k', I k' f' m' ∧ k' < k) Q) f m) : SW P n (.loop c) Q f m := fun a ha => by
  -- the number of rounds left, as the least that will do
  let J : Nat → List Value → Mem → Prop := fun k a m => ∃ f, Knows n f a ∧ I k f m
  have key : ∀ k a m, J k a m → AW P (.loop c) (fun e a' m' => ∃ f', Knows n f' a' ∧ Q e f' m') a m := by
    intro k a m hJ ι₀ m₀ w₀ ι act w hs ha hr
    have run : ∀ k a m, J k a m → ∀ (ι₀ : Nat → Loc) (m₀ : Mem) (w₀ : World) (ι : Nat → Loc) (act : Act) (w : World), Step ι₀ m₀ w₀ ι m w → ARel m.Has ι a act → Rel ι m w →
        Code.rounds P c (Post ι₀ m₀ w₀ fun e a' m' => ∃ f', Knows n f' a' ∧ Q e f' m') (k + 1) act w := by
      intro k
      induction k using Nat.strongRecOn with
      | _ k ih =>
        rintro a m ⟨f, hf, hI⟩ ι₀ m₀ w₀ ι act w hs ha hr
        refine wp_mono (round k f m hI a hf ι₀ m₀ w₀ ι act w hs ha hr) ?_
        rintro e act2 w2 ⟨κ, a2, m2, ⟨f2, hf2, hq2⟩, ha2, hr2, hs2⟩
        cases e with
        | normal =>
          obtain ⟨k', hI', hlt⟩ := hq2
          have := ih k' hlt a2 m2 ⟨f2, hf2, hI'⟩ ι₀ m₀ w₀ κ act2 w2 hs2 ha2 hr2
          exact rounds_le this (by omega)
        | _ => exact ⟨κ, a2, m2, ⟨f2, hf2, hq2⟩, ha2, hr2, hs2⟩
    exact wp_loop_rounds (k + 1) (run k a m hJ ι₀ m₀ w₀ ι act w hs ha hr)
  exact key k₀ a m ⟨f, ha, h₀⟩
where
  rounds_le {c : Code} {Q : Exit → Act → World → Prop} : ∀ {j k : Nat} {a : Act} {w : World}, Code.rounds P c Q j a w → j ≤ k → Code.rounds P c Q k a w
  | 0, _, _, _, h, _ => h.elim
  | j + 1, 0, _, _, _, h => by omega
  | j + 1, k + 1, a, w, h, hle => wp_mono h fun e a' w' hq => by
    cases e with
    | normal => exact rounds_le hq (by omega)
    | _ => exact hq
theorem SW_region {id : Nat} {ops : Array Oper} (h : sOps P n ops.toList (Q .normal) ops.toList f m) : SW P n (.region id ops false) Q f m :=
  fun a ha => AW_region (sOps_run (fun f m a h1 h2 => ⟨f, h1, h2⟩) _ f m a ha h)
end
end
end Go.Proofs.YtabffcplbjaklaaGreatDoor.Abs
namespace Go.Proofs.YtabffcplbjaklaaGreatDoor.Abs
open Go Go.RowKit
section
variable [Defs]
def sHOp (P : Program) (n : Nat) (m0 : Mem) (al : Bool) (o : Oper) (f : AL) (M : Mem) [c : Box (Bool → AL → Mem → Prop)] : Prop := match kind P o.op with
  | .val => @withV _ (sVal P (AL.look f) m0.get o.op) ⟨fun v => @sPut n o.dst v f ⟨fun f' => c.k al f' M⟩⟩
  | .new => @withV _ (sNew P (AL.look f) M.size o.op) ⟨fun p => @sPut n o.dst p.1 f ⟨fun f' => c.k true f' (M.push p.2)⟩⟩
  | .mem => False
  | .fn => al = false ∧ @withV _ (sCallee (AL.look f) o.op) ⟨fun p => entered P p.1 = true ∧ @Later ⟨∃ v, Spec P p.1 p.2 m0 (fun u m' => u = v ∧ m' = m0) ∧ @sPut n o.dst v f ⟨fun f' => c.k al f' M⟩⟩⟩
  | .any => False
def isVal : Kind → Bool
  | .val => true
  | _ => false
def sGuardedV (w : Option Bool) (x : Option Value) : Option Value := match w with
  | some true => x
  | some false => some undef
  | none => none
def sHOne (P : Program) (n : Nat) (all : List Oper) (m0 : Mem) (al : Bool) (o : Oper) (f : AL) (M : Mem) [c : Box (Bool → AL → Mem → Prop)] : Prop := match o.guard with
  | none => @sHOp P n m0 al o f M c
  | some _ => match isVal (kind P o.op) with
    | true => @withV _ (sGuardedV (sWant all o f) (sVal P (AL.look f) m0.get o.op)) ⟨fun v => @sPut n o.dst v f ⟨fun f' => c.k al f' M⟩⟩
    | false => @sGuard all o f ⟨fun _ => @sHOp P n m0 al o f M c⟩ ⟨fun _ => @sPut n o.dst undef f ⟨fun f' => c.k al f' M⟩⟩
def sHeadB (P : Program) (n : Nat) (all : List Oper) (m0 : Mem) [K : Box (AL → Mem → Prop)] : List Oper → Bool → AL → Mem → Prop
  | [], _, f, M => K.k f M
  | o :: r, al, f, M => @sHOne P n all m0 al o f M ⟨sHeadB P n all m0 r⟩
def sHead (P : Program) (n : Nat) (all : List Oper) (m0 : Mem) (K : AL → Mem → Prop) (al : Bool) (l : List Oper) (f : AL) (M : Mem) : Prop := @sHeadB P n all m0 ⟨K⟩ l al f M
theorem sHead_run (b : Nat) (V0 : Nat → Value) (N0 : Nat → List (Option Blk)) {P : Program} {n : Nat} {ops : Array Oper} {m₀ : Mem} {a₀ : List Value} {q : Nat} {K : AL → Mem → Prop} (hq : headOK ops q = true) (hqs : q ≤ ops.size) :
    ∀ (l : List Oper) (k : Nat) (vs : List Value) (Ns : List (List (Option Blk))) (al : Bool) (f : AL) (M : Mem), (∀ j, l[j]? = if k + j < q then ops[k + j]? else none) → k ≤ q → vs.length = k → Ns.length = k →
      Knows n f (frameAt ops (getV vs) allS a₀ k) → M = memAt m₀ (getN Ns) allS k → (al = false → ∀ j, getN Ns j = []) → (∀ j, j < k → (getN Ns j).all ownB = true) →
      (∀ i o, b ≤ i → i < k → ops[i]? = some o → DOp P ops a₀ m₀ (getV vs) (getN Ns) i o) → (∀ i o, b ≤ i → i < k → ops[i]? = some o → kind P o.op = .val → o.guard = none → evOp P o.op (frB ops a₀ (getV vs) i) (memB ops m₀ (getN Ns) i) = some (getV vs i, memB ops m₀ (getN Ns) i) ∧ getN Ns i = []) → b ≤ k → (∀ j, j < b → getV vs j = V0 j ∧ getN Ns j = N0 j) → sHead P n ops.toList m₀ K al l f M →
      ∃ vs' Ns' f', Knows n f' (frameAt ops (getV vs') allS a₀ q) ∧ K f' (memAt m₀ (getN Ns') allS q) ∧ (∀ j, j < q → (getN Ns' j).all ownB = true) ∧ (∀ i o, b ≤ i → i < q → ops[i]? = some o → DOp P ops a₀ m₀ (getV vs') (getN Ns') i o) ∧ (∀ i o, b ≤ i → i < q → ops[i]? = some o → kind P o.op = .val → o.guard = none → evOp P o.op (frB ops a₀ (getV vs') i) (memB ops m₀ (getN Ns') i) = some (getV vs' i, memB ops m₀ (getN Ns') i) ∧ getN Ns' i = []) ∧ (∀ j, j < b → getV vs' j = V0 j ∧ getN Ns' j = N0 j) := by
  have hq0 := hq
  simp only [headOK, Bool.and_eq_true] at hq
  obtain ⟨⟨hsel, hback⟩, hap⟩ := hq
  intro l
  induction l with
  | nil =>
    intro k vs Ns al f M hl hkq hvs hNs hf hm hal hown hd hst hbk hkeep h
    have hk : k = q := by
      have h0 := hl 0
      rcases Nat.lt_or_ge k q with h1 | h1
      · rw [if_pos (by omega), Nat.add_zero, Array.getElem?_eq_getElem (show k < ops.size by omega)] at h0
        cases h0
      · omega
    subst hk
    exact ⟨vs, Ns, f, hf, by rw [← hm]; exact h, hown, hd, hst, hkeep⟩
  | cons o l ih =>
    intro k vs Ns al f M hl hkq hvs hNs hf hm hal hown hd hst hbk hkeep h
    have hk : k < q ∧ ops[k]? = some o := by
      have h0 := hl 0
      rcases Nat.lt_or_ge k q with h1 | h1
      · rw [if_pos (by omega), Nat.add_zero] at h0
        exact ⟨h1, by simpa using h0.symm⟩
      · rw [if_neg (by omega)] at h0; cases h0
    obtain ⟨hkq', hko⟩ := hk
    obtain ⟨a, ha⟩ : ∃ a, a = frameAt ops (getV vs) allS a₀ k := ⟨_, rfl⟩
    rw [← ha] at hf
    have hslot : ∀ t, t ∈ o.looksAt ops → (frB ops a₀ (getV vs) k)[t]? = a[t]? := fun t ht => by rw [ha]; exact slot_all hap hkq' hqs hko ht
    have hev : ∀ x ∈ o.op.operands, aEval (frB ops a₀ (getV vs) k) x = aEval a x := by
      intro x hx
      cases x with
      | tmp t =>
        simp only [aEval]
        refine hslot t ?_
        simp only [Oper.looksAt, List.mem_append, List.mem_filterMap]
        exact .inl ⟨.tmp t, by simpa using hx, rfl⟩
      | _ => rfl
    have hwant : Region.wanted o (aYielded ops.toList (frB ops a₀ (getV vs) k)) = Region.wanted o (aYielded ops.toList a) := by
      refine wanted_congr o fun g b hg => ?_
      unfold aYielded
      simp only [Array.getElem?_toList]
      cases hog : ops[g]? with
      | none => rfl
      | some og =>
        cases hdg : og.dst with
        | none => simp [hdg]
        | some t =>
          simp only [hdg]
          rw [hslot t (by simp [Oper.looksAt, hg, hog, hdg])]
    have next : ∀ (v : Value) (N : List (Option Blk)) (al' : Bool) (f1 : AL), DOp P ops a₀ m₀ (getV (vs ++ [v])) (getN (Ns ++ [N])) k o → (kind P o.op = .val → o.guard = none → evOp P o.op (frB ops a₀ (getV (vs ++ [v])) k) (memB ops m₀ (getN (Ns ++ [N])) k) = some (v, memB ops m₀ (getN (Ns ++ [N])) k) ∧ N = []) → N.all ownB = true → Knows n f1 (aPut a o.dst v) → (al' = false → al = false ∧ N = []) →
        sHead P n ops.toList m₀ K al' l f1 (M.app N) →
        ∃ vs' Ns' f', Knows n f' (frameAt ops (getV vs') allS a₀ q) ∧ K f' (memAt m₀ (getN Ns') allS q) ∧ (∀ j, j < q → (getN Ns' j).all ownB = true) ∧ (∀ i o, b ≤ i → i < q → ops[i]? = some o → DOp P ops a₀ m₀ (getV vs') (getN Ns') i o) ∧ (∀ i o, b ≤ i → i < q → ops[i]? = some o → kind P o.op = .val → o.guard = none → evOp P o.op (frB ops a₀ (getV vs') i) (memB ops m₀ (getN Ns') i) = some (getV vs' i, memB ops m₀ (getN Ns') i) ∧ getN Ns' i = []) ∧ (∀ j, j < b → getV vs' j = V0 j ∧ getN Ns' j = N0 j) := by
      intro v N al' f1 hD hSt hNo hf1 hal' h
      have hlow : ∀ j, j < k → getV vs j = getV (vs ++ [v]) j := fun j hj => by rw [getV_append, if_pos (by omega)]
      have hlowN : ∀ j, j < k → getN Ns j = getN (Ns ++ [N]) j := fun j hj => by rw [getN_append, if_pos (by omega)]
      have gN : getN (Ns ++ [N]) k = N := by rw [getN_append, if_neg (by omega), if_pos (by omega)]
      have hmem : memAt m₀ (getN (Ns ++ [N])) allS k = memAt m₀ (getN Ns) allS k := by
        unfold memAt
        rw [newsAt_congrN k fun j hj => (hlowN j hj).symm]
      refine ih (k + 1) (vs ++ [v]) (Ns ++ [N]) al' f1 (M.app N) (fun j => ?_) (by omega) (by simp [hvs]) (by simp [hNs]) ?_ ?_ (fun he j => ?_) (fun j hj => ?_) (fun i oi hbi hi hoi => ?_) (fun i oi hbi hi hoi hsi hgi => ?_) (by omega) (fun j hj => by rw [← hlow j (by omega), ← hlowN j (by omega)]; exact hkeep j hj) h
      · have := hl (j + 1)
        rw [List.getElem?_cons_succ] at this
        rw [this, show k + (j + 1) = k + 1 + j by omega]
      · simp only [frameAt, allS, if_true, hko, Option.bind_some]
        rw [← frameAt_congr k hlow, getV_append, if_neg (by omega), if_pos (by omega)]
        rw [ha] at hf1
        exact hf1
      · rw [memAt_succ, hmem, gN, ← hm]
      · obtain ⟨h1, h2⟩ := hal' he
        rw [getN_append]
        split
        · exact hal h1 j
        · split
          · exact h2
          · rfl
      · by_cases e : j = k
        · subst e; rw [gN]; exact hNo
        · rw [← hlowN j (by omega)]; exact hown j (by omega)
      · by_cases e : i = k
        · subst e
          rw [hko] at hoi; cases hoi
          exact hD
        · exact DOp_congr (fun j hj => hlow j (by omega)) (fun j hj => hlowN j (by omega)) (hd i oi hbi (by omega) hoi)
      · by_cases e : i = k
        · subst e
          rw [hko] at hoi; cases hoi
          obtain ⟨h1, h2⟩ := hSt hsi hgi
          rw [gN, getV_append, if_neg (by omega), if_pos (by omega)]
          exact ⟨h1, h2⟩
        · obtain ⟨h1, h2⟩ := hst i oi hbi (by omega) hoi hsi hgi
          have e1 : frB ops a₀ (getV (vs ++ [v])) i = frB ops a₀ (getV vs) i := frameAt_congr i fun j hj => (hlow j (by omega)).symm
          have e2 : memB ops m₀ (getN (Ns ++ [N])) i = memB ops m₀ (getN Ns) i := by
            unfold memB memAt
            rw [newsAt_congrN i fun j hj => (hlowN j (by omega)).symm]
          rw [e1, e2, ← hlow i (by omega), ← hlowN i (by omega)]
          exact ⟨h1, h2⟩
    have gv : ∀ v, getV (vs ++ [v]) k = v := fun v => by rw [getV_append, if_neg (by omega), if_pos (by omega)]
    have gN : ∀ N, getN (Ns ++ [N]) k = N := fun N => by rw [getN_append, if_neg (by omega), if_pos (by omega)]
    have fv : ∀ v, frB ops a₀ (getV (vs ++ [v])) k = frB ops a₀ (getV vs) k := fun v => frameAt_congr k fun j hj => by rw [getV_append, if_pos (by omega)]
    have fN : ∀ N, memB ops m₀ (getN (Ns ++ [N])) k = memB ops m₀ (getN Ns) k := fun N => by
      unfold memB memAt
      rw [newsAt_congrN k fun j hj => by rw [getN_append, if_pos (by omega)]]
    have app0 : ∀ M : Mem, M.app [] = M := fun M => by simp [Mem.app]
    have hsame : (memB ops m₀ (getN Ns) k).size = M.size := by
      rw [hm]
      unfold memB memAt Mem.size
      simp only [List.length_append]
      rw [newsAt_length (getN Ns) (B ops k) allS k]
    have hg := hf.look
    have hsub : ∀ b x, m₀.get b = some x → (memB ops m₀ (getN Ns) k).get b = some x := fun b x hx => (memAt_get _ _ _ _).2 (.inl ⟨Mem.get_lt hx, hx⟩)
    simp only [sHead, sHeadB, sHOne] at h
    have skip : Region.wanted o (aYielded ops.toList a) = false → (@sPut n o.dst undef f ⟨fun f' => sHead P n ops.toList m₀ K al l f' M⟩) → ∃ vs' Ns' f', Knows n f' (frameAt ops (getV vs') allS a₀ q) ∧ K f' (memAt m₀ (getN Ns') allS q) ∧ (∀ j, j < q → (getN Ns' j).all ownB = true) ∧ (∀ i o, b ≤ i → i < q → ops[i]? = some o → DOp P ops a₀ m₀ (getV vs') (getN Ns') i o) ∧ (∀ i o, b ≤ i → i < q → ops[i]? = some o → kind P o.op = .val → o.guard = none → evOp P o.op (frB ops a₀ (getV vs') i) (memB ops m₀ (getN Ns') i) = some (getV vs' i, memB ops m₀ (getN Ns') i) ∧ getN Ns' i = []) ∧ (∀ j, j < b → getV vs' j = V0 j ∧ getN Ns' j = N0 j) := fun hw h => by
      obtain ⟨f', h3, h4⟩ := sPut_spec h hf
      refine next undef [] al f' ?_ (fun _ hg => by rw [wanted_free hg] at hw; cases hw) rfl h3 (fun he => ⟨he, rfl⟩) (by rw [app0]; exact h4)
      unfold DOp
      rw [fv, gv, gN, hwant, if_neg (by rw [hw]; simp)]
      exact ⟨rfl, rfl⟩
    have val : ∀ v, Region.wanted o (aYielded ops.toList a) = true → sVal P (AL.look f) m₀.get o.op = some v → (@sPut n o.dst v f ⟨fun f' => sHead P n ops.toList m₀ K al l f' M⟩) → ∃ vs' Ns' f', Knows n f' (frameAt ops (getV vs') allS a₀ q) ∧ K f' (memAt m₀ (getN Ns') allS q) ∧ (∀ j, j < q → (getN Ns' j).all ownB = true) ∧ (∀ i o, b ≤ i → i < q → ops[i]? = some o → DOp P ops a₀ m₀ (getV vs') (getN Ns') i o) ∧ (∀ i o, b ≤ i → i < q → ops[i]? = some o → kind P o.op = .val → o.guard = none → evOp P o.op (frB ops a₀ (getV vs') i) (memB ops m₀ (getN Ns') i) = some (getV vs' i, memB ops m₀ (getN Ns') i) ∧ getN Ns' i = []) ∧ (∀ j, j < b → getV vs' j = V0 j ∧ getN Ns' j = N0 j) := fun v hw h1 h2 => by
      obtain ⟨f', h3, h4⟩ := sPut_spec h2 hf
      refine next v [] al f' ?_ (fun _ _ => ⟨by rw [fv, fN, evOp_congr P o.op _ hev]; exact sVal_spec (P := P) hg hsub h1, rfl⟩) rfl h3 (fun he => ⟨he, rfl⟩) (by rw [app0]; exact h4)
      have := sVal_spec (P := P) hg hsub h1
      unfold DOp memOf
      rw [fv, fN, gv, gN, hwant, if_pos hw, app0]
      exact ⟨OpSim.congr (OpSim.op this ⟨rfl, rfl⟩) hev, rfl⟩
    have run : Region.wanted o (aYielded ops.toList a) = true → @sHOp P n m₀ al o f M ⟨fun al' f' M' => sHead P n ops.toList m₀ K al' l f' M'⟩ → ∃ vs' Ns' f', Knows n f' (frameAt ops (getV vs') allS a₀ q) ∧ K f' (memAt m₀ (getN Ns') allS q) ∧ (∀ j, j < q → (getN Ns' j).all ownB = true) ∧ (∀ i o, b ≤ i → i < q → ops[i]? = some o → DOp P ops a₀ m₀ (getV vs') (getN Ns') i o) ∧ (∀ i o, b ≤ i → i < q → ops[i]? = some o → kind P o.op = .val → o.guard = none → evOp P o.op (frB ops a₀ (getV vs') i) (memB ops m₀ (getN Ns') i) = some (getV vs' i, memB ops m₀ (getN Ns') i) ∧ getN Ns' i = []) ∧ (∀ j, j < b → getV vs' j = V0 j ∧ getN Ns' j = N0 j) := fun hw h => by
      unfold sHOp at h
      split at h <;> rename_i hkd
      · obtain ⟨v, h1, h2⟩ := withV_spec h
        exact val v hw h1 h2
      · obtain ⟨⟨v, b⟩, h1, h2⟩ := withV_spec h
        obtain ⟨f', h3, h4⟩ := sPut_spec h2 hf
        rw [← hsame] at h1
        obtain ⟨h5, h6⟩ := sNew_spec (P := P) hg h1
        have e1 : ∀ M : Mem, M.push b = M.app [some b] := fun M => rfl
        refine next v [some b] true f' ?_ (fun hs _ => by rw [hs] at hkd; cases hkd) (by simp only [List.all_cons, h6, List.all_nil, Bool.and_self]) h3 (fun he => by cases he) (by rw [← e1]; exact h4)
        rw [e1] at h5
        unfold DOp memOf
        rw [fv, fN, gv, gN, hwant, if_pos hw]
        exact ⟨OpSim.congr (OpSim.op h5 ⟨rfl, rfl⟩) hev, by simp only [List.all_cons, h6, List.all_nil, Bool.and_self]⟩
      · exact h.elim
      · obtain ⟨hal0, h⟩ := h
        obtain ⟨⟨c, xs⟩, h1, he, v, hsp, h2⟩ := withV_spec h
        obtain ⟨f', h3, h4⟩ := sPut_spec h2 hf
        have hB : memB ops m₀ (getN Ns) k = m₀ := by
          have : ∀ i, newsAt (getN Ns) (B ops k) i = [] := by
            intro i
            induction i with
            | zero => rfl
            | succ i ih => simp [newsAt, ih, hal hal0]
          unfold memB memAt
          rw [this, List.append_nil]
        rw [sCallee_eq] at h1
        refine next v [] al f' ?_ (fun hs _ => by rw [hs] at hkd; cases hkd) rfl h3 (fun he => ⟨he, rfl⟩) (by rw [app0]; exact h4)
        unfold DOp memOf
        rw [fv, fN, gv, gN, hwant, if_pos hw, app0, hB]
        exact ⟨OpSim.congr (OpSim.call (fCallee_spec hg h1) he hsp) hev, rfl⟩
      · exact h.elim
    split at h
    · rename_i hgd
      exact run (by unfold Region.wanted; rw [hgd]) h
    · split at h
      · obtain ⟨v, h1, h2⟩ := withV_spec h
        unfold sGuardedV at h1
        split at h1
        · rename_i hw; exact val v (sWant_spec hw hf) h1 h2
        · rename_i hw; cases h1; exact skip (sWant_spec hw hf) h2
        · cases h1
      · rcases sGuard_spec h hf with ⟨hw, h⟩ | ⟨hw, h⟩
        · exact run hw h
        · exact skip hw h
theorem SW_draw {P : Program} {n : Nat} {Q : Exit → AL → Mem → Prop} {f : AL} {m : Mem} {id : Nat} {ops : Array Oper} (hmix : P.follows .mixedOrders = true) (q : Nat) (hq : drawOK ops q = true) (hqs : Nat.ble q ops.size = true)
    (h : sHead P n ops.toList m (fun f' M => sOps P n ops.toList (Q .normal) (ops.toList.drop q) f' M) false (ops.toList.take q) f m) : SW P n (.region id ops true) Q f m := by
  intro a ha
  have hqs := Nat.le_of_ble_eq_true hqs
  obtain ⟨vs, Ns, f', h1, h2, h3, h4, _⟩ := sHead_run 0 (fun _ => undef) (fun _ => []) (a₀ := a) (m₀ := m) (drawOK_head hq) hqs (ops.toList.take q) 0 [] [] false f m (fun j => by rw [List.getElem?_take, Array.getElem?_toList, Nat.zero_add]) (by omega) rfl rfl ha (by simp [memAt, newsAt])
    (fun _ j => by simp [getN]) (fun j hj => by omega) (fun i o _ hi => by omega) (fun i o _ hi => by omega) (Nat.le_refl _) (fun j hj => by omega) h
  exact AW_draw hmix q hq hqs (getV vs) (getN Ns) (fun i o hi ho => h4 i o (Nat.zero_le _) hi ho) (sOps_run (fun f m a h1 h2 => ⟨f, h1, h2⟩) _ f' _ _ h1 h2)
def idleOK (P : Program) (all : List Oper) (f : AL) (m0 m' : Mem) : List Nat → Prop
  | [] => True
  | j :: r => (∃ x, (all[j]?).bind (fun o => sVal P (AL.look f) m0.get o.op) = some x ∧ (all[j]?).bind (fun o => sVal P (AL.look f) m'.get o.op) = some x) ∧ idleOK P all f m0 m' r
theorem idleOK_spec {P : Program} {all : List Oper} {f : AL} {m0 m' : Mem} : ∀ {J : List Nat}, idleOK P all f m0 m' J → ∀ j, J.contains j = true → ∀ o, all[j]? = some o → ∃ x, sVal P (AL.look f) m0.get o.op = some x ∧ sVal P (AL.look f) m'.get o.op = some x
  | [], _, j, hj, _, _ => by simp at hj
  | k :: r, h, j, hj, o, ho => by
    obtain ⟨⟨x, h1, h2⟩, h3⟩ := h
    by_cases e : j = k
    · subst e
      rw [ho] at h1 h2
      exact ⟨x, h1, h2⟩
    · refine idleOK_spec h3 j ?_ o ho
      simpa [e] using hj
def drawOK4 (P : Program) (ops : Array Oper) (q : Nat) (J : List Nat) : Bool :=
  drawOK ops (q + 1) && Nat.blt q ops.size && (List.range q).all (fun j => B ops q j || (J.contains j && match ops[j]? with
    | some o => isVal (kind P o.op) && o.guard.isNone && (List.range q).all fun k => Nat.blt k j || match (ops[k]?).bind (·.dst) with
      | some t => !(o.looksAt ops).contains t
      | none => true
    | none => false)) && match ops[q]? with
    | some o => o.guard.isNone
    | none => false
theorem SW_draw4 {P : Program} {n : Nat} {Q : Exit → AL → Mem → Prop} {f : AL} {m : Mem} {id : Nat} {ops : Array Oper} (hmix : P.follows .mixedOrders = true) (q : Nat) (J : List Nat) (hq : drawOK4 P ops q J = true) {oq : Oper} (hoq : ops[q]? = some oq)
    (h : sHead P n ops.toList m (fun f' M => @withV _ (sMem P (AL.look f') M oq.op) ⟨fun p => idleOK P ops.toList f' m p.2 J ∧ @sPut n oq.dst p.1 f' ⟨fun f'' => sOps P n ops.toList (Q .normal) (ops.toList.drop (q + 1)) f'' p.2⟩⟩) false (ops.toList.take q) f m) : SW P n (.region id ops true) Q f m := by
  intro a ha
  simp only [drawOK4, Bool.and_eq_true] at hq
  obtain ⟨⟨⟨hq1, hqs⟩, hidle⟩, hgq⟩ := hq
  have hqs := Nat.le_of_ble_eq_true hqs
  rw [hoq] at hgq
  have hgq : oq.guard = none := by simpa using hgq
  obtain ⟨vs, Ns, f', h1, h2, h3, h4, h5, _⟩ := sHead_run 0 (fun _ => undef) (fun _ => []) (a₀ := a) (m₀ := m) (headOK_less (drawOK_head hq1)) (by omega) (ops.toList.take q) 0 [] [] false f m (fun j => by rw [List.getElem?_take, Array.getElem?_toList, Nat.zero_add]) (by omega) rfl rfl ha (by simp [memAt, newsAt])
    (fun _ j => by simp [getN]) (fun j hj => by omega) (fun i o _ hi => by omega) (fun i o _ hi => by omega) (Nat.le_refl _) (fun j hj => by omega) h
  obtain ⟨⟨vq, M'⟩, g1, g2, g3⟩ := withV_spec h2
  obtain ⟨f'', g4, g5⟩ := sPut_spec g3 h1
  have hap : apartAll ops (befM ops.toList) q = true := by
    have := headOK_less (drawOK_head hq1)
    simp only [headOK, Bool.and_eq_true] at this
    exact this.2
  refine AW_draw4 hmix q hq1 hqs hoq hgq (getV vs) (getN Ns) (fun i o hi ho => h4 i o (Nat.zero_le _) hi ho) (fun i o hi ho hb => ?_) (sMem_spec h1.look g1) (sOps_run (fun f m a h1 h2 => ⟨f, h1, h2⟩) _ f'' _ _ g4 g5)
  have hi2 := List.all_eq_true.1 hidle i (List.mem_range.2 hi)
  rw [hb, ho] at hi2
  simp only [Bool.false_or, Bool.and_eq_true, Option.isNone_iff_eq_none] at hi2
  obtain ⟨hJ, ⟨hk, hg⟩, hov⟩ := hi2
  have hkv : kind P o.op = .val := by cases hkk : kind P o.op <;> rw [hkk] at hk <;> first | rfl | cases hk
  obtain ⟨e1, e2⟩ := h5 i o (Nat.zero_le _) hi ho hkv hg
  obtain ⟨x, x1, x2⟩ := idleOK_spec g2 i hJ o (by simpa using ho)
  have hsl : ∀ t, t ∈ o.looksAt ops → (frB ops a (getV vs) i)[t]? = (frameAt ops (getV vs) allS a q)[t]? := fun t ht => by
    rw [slot_all hap hi (by omega) ho ht]
    have h1 : (frameAt ops (getV vs) allS a q)[t]? = (frameAt ops (getV vs) (fun k => decide (k < i)) a q)[t]? := frameAt_get t q fun k hk hdst => by
      by_cases hki : k < i
      · simp [allS, hki]
      · exfalso
        have := List.all_eq_true.1 hov k (List.mem_range.2 hk)
        rw [Bool.or_eq_true] at this
        rcases this with h2 | h2
        · have := Nat.le_of_ble_eq_true h2; omega
        · rw [hdst] at h2
          simp only [Bool.not_eq_true'] at h2
          have := List.contains_iff_mem.2 ht
          rw [this] at h2; cases h2
    rw [h1, frameAt_tail (i := i) q (by omega) (fun k h1 _ => by simp; omega)]
    exact frameAt_get t i fun k hk _ => by simp [allS, hk]
  have v1 : evOp P o.op (frB ops a (getV vs) i) (memB ops m (getN Ns) i) = some (x, memB ops m (getN Ns) i) := by
    rw [evOp_congr P o.op _ (ev_looks hsl)]
    exact sVal_spec (P := P) h1.look (fun b y hb => (memAt_get _ _ _ _).2 (.inl ⟨Mem.get_lt hb, hb⟩)) x1
  have v2 : evOp P o.op (frB ops a (getV vs) i) M' = some (x, M') := by
    rw [evOp_congr P o.op _ (ev_looks hsl)]
    exact sVal_spec (P := P) h1.look (fun _ _ h => h) x2
  rw [e1] at v1
  have hx : getV vs i = x := by injection v1 with v1; injection v1
  exact ⟨hg, by rw [hx]; exact v2, e2⟩
def idleOK7 (P : Program) (all : List Oper) (f : AL) (m' : Mem) : List Nat → Prop
  | [] => True
  | j :: r => (∃ x, (all[j]?).bind (fun o => o.dst.bind (AL.get f)) = some x ∧ (all[j]?).bind (fun o => sVal P (AL.look f) m'.get o.op) = some x) ∧ idleOK7 P all f m' r
theorem idleOK7_spec {P : Program} {all : List Oper} {f : AL} {m' : Mem} : ∀ {J : List Nat}, idleOK7 P all f m' J → ∀ j, J.contains j = true → ∀ o, all[j]? = some o → ∃ x, o.dst.bind (AL.get f) = some x ∧ sVal P (AL.look f) m'.get o.op = some x
  | [], _, j, hj, _, _ => by simp at hj
  | k :: r, h, j, hj, o, ho => by
    obtain ⟨⟨x, h1, h2⟩, h3⟩ := h
    by_cases e : j = k
    · subst e
      rw [ho] at h1 h2
      exact ⟨x, h1, h2⟩
    · refine idleOK7_spec h3 j ?_ o ho
      simpa [e] using hj
def drawOK7 (P : Program) (ops : Array Oper) (q : Nat) (J : List Nat) : Bool :=
  drawOK ops (q + 1) && Nat.blt q ops.size && (List.range q).all (fun j => B ops q j || (J.contains j && match ops[j]? with
    | some o => isVal (kind P o.op) && (List.range q).all fun k => match (ops[k]?).bind (·.dst) with
      | some t => (Nat.blt k j || !(o.looksAt ops).contains t) && (Nat.beq k j || !(o.dst == some t))
      | none => true
    | none => false)) && match ops[q]? with
    | some o => o.guard.isNone
    | none => false
theorem frameAt_hit {ops : Array Oper} {v : Nat → Value} {a : List Value} {i t : Nat} (hi : (ops[i]?).bind (·.dst) = some t) (ht : t < a.length) : ∀ q, i < q → (∀ k, k < q → k ≠ i → (ops[k]?).bind (·.dst) ≠ some t) → (frameAt ops v allS a q)[t]? = some (v i)
  | 0, h, _ => by omega
  | q + 1, h, hk => by
    simp only [frameAt, allS, if_true]
    by_cases e : i = q
    · subst e
      rw [hi]
      simp only [aPut]
      rw [List.getElem?_set_self (by rw [frameAt_length]; exact ht)]
    · rw [aPut_get _ _ _ _ (hk q (by omega) (Ne.symm e))]
      exact frameAt_hit hi ht q (by omega) fun k h1 h2 => hk k (by omega) h2
theorem newsAt_none {N : Nat → List (Option Blk)} {S : Nat → Bool} : ∀ {q : Nat}, (newsAt N S q).length = 0 → ∀ i, i < q → N i = []
  | 0, _, i, h => by omega
  | q + 1, h, i, hi => by
    simp only [newsAt, List.length_append, List.length_map] at h
    by_cases e : i = q
    · subst e
      exact List.eq_nil_of_length_eq_zero (by omega)
    · exact newsAt_none (S := S) (q := q) (by omega) i (by omega)
theorem SW_draw7 {P : Program} {n : Nat} {Q : Exit → AL → Mem → Prop} {f : AL} {m : Mem} {id : Nat} {ops : Array Oper} (hmix : P.follows .mixedOrders = true) (q : Nat) (J : List Nat) (hq : drawOK7 P ops q J = true) {oq : Oper} (hoq : ops[q]? = some oq)
    (h : sHead P n ops.toList m (fun f' M => @withV _ (sMem P (AL.look f') M oq.op) ⟨fun p => (M.size = m.size ∧ idleOK7 P ops.toList f' p.2 J) ∧ @sPut n oq.dst p.1 f' ⟨fun f'' => sOps P n ops.toList (Q .normal) (ops.toList.drop (q + 1)) f'' p.2⟩⟩) false (ops.toList.take q) f m) : SW P n (.region id ops true) Q f m := by
  intro a ha
  simp only [drawOK7, Bool.and_eq_true] at hq
  obtain ⟨⟨⟨hq1, hqs⟩, hidle⟩, hgq⟩ := hq
  have hqs := Nat.le_of_ble_eq_true hqs
  rw [hoq] at hgq
  have hgq : oq.guard = none := by simpa using hgq
  obtain ⟨vs, Ns, f', h1, h2, h3, h4, h5, _⟩ := sHead_run 0 (fun _ => undef) (fun _ => []) (a₀ := a) (m₀ := m) (headOK_less (drawOK_head hq1)) (by omega) (ops.toList.take q) 0 [] [] false f m (fun j => by rw [List.getElem?_take, Array.getElem?_toList, Nat.zero_add]) (by omega) rfl rfl ha (by simp [memAt, newsAt])
    (fun _ j => by simp [getN]) (fun j hj => by omega) (fun i o _ hi => by omega) (fun i o _ hi => by omega) (Nat.le_refl _) (fun j hj => by omega) h
  obtain ⟨⟨vq, M'⟩, g1, ⟨gsz, g2⟩, g3⟩ := withV_spec h2
  obtain ⟨f'', g4, g5⟩ := sPut_spec g3 h1
  have hN : ∀ i, i < q → getN Ns i = [] := fun i hi => by
    refine newsAt_none (S := allS) (q := q) ?_ i hi
    have : (memAt m (getN Ns) allS q).size = m.size + (newsAt (getN Ns) allS q).length := by simp [memAt, Mem.size]
    omega
  have hap : apartAll ops (befM ops.toList) q = true := by
    have := headOK_less (drawOK_head hq1)
    simp only [headOK, Bool.and_eq_true] at this
    exact this.2
  have hfl : (frameAt ops (getV vs) allS a q).length = a.length := frameAt_length _ _
  refine AW_draw6 hmix q hq1 hqs hoq hgq (getV vs) (getN Ns) (fun i o hi ho => h4 i o (Nat.zero_le _) hi ho) (fun i o hi _ _ => hN i hi) (OpSim.op (R := fun u M => u = vq ∧ M = M') (sMem_spec h1.look g1) ⟨rfl, rfl⟩) (fun u M hR => ?_)
  obtain ⟨rfl, rfl⟩ := hR
  refine ⟨fun i o hi ho hb => ?_, sOps_run (fun f m a h1 h2 => ⟨f, h1, h2⟩) _ f'' _ _ g4 g5⟩
  have hD := h4 i o (Nat.zero_le _) hi ho
  unfold DOp at hD
  unfold Idle
  split
  · have hi2 := List.all_eq_true.1 hidle i (List.mem_range.2 hi)
    rw [hb, ho] at hi2
    simp only [Bool.false_or, Bool.and_eq_true] at hi2
    obtain ⟨hJ, hk, hov⟩ := hi2
    obtain ⟨x, x1, x2⟩ := idleOK7_spec g2 i hJ o (by simpa using ho)
    obtain ⟨t, ht, hx⟩ : ∃ t, o.dst = some t ∧ AL.get f' t = some x := by
      cases hd : o.dst with
      | none => rw [hd] at x1; cases x1
      | some t => rw [hd] at x1; exact ⟨t, rfl, x1⟩
    have hs := h1.2 t x hx
    have hlt : t < a.length := by rw [← hfl]; exact (List.getElem?_eq_some_iff.1 hs).1
    have hkk : ∀ k, k < q → ∀ u, (ops[k]?).bind (·.dst) = some u → (k < i ∨ u ∉ o.looksAt ops) ∧ (k = i ∨ o.dst ≠ some u) := fun k hk u hu => by
      have := List.all_eq_true.1 hov k (List.mem_range.2 hk)
      rw [hu] at this
      simp only [Bool.and_eq_true, Bool.or_eq_true] at this
      obtain ⟨e1, e2⟩ := this
      refine ⟨?_, ?_⟩
      · rcases e1 with e1 | e1
        · exact .inl (Nat.le_of_ble_eq_true e1)
        · right
          intro hc
          rw [List.contains_iff_mem.2 hc] at e1; cases e1
      · rcases e2 with e2 | e2
        · exact .inl (Nat.eq_of_beq_eq_true e2)
        · right
          intro hc
          rw [hc] at e2; simp at e2
    have hv : getV vs i = x := by
      have := frameAt_hit (v := getV vs) (ops := ops) (a := a) (i := i) (t := t) (by rw [ho]; exact ht) hlt q hi fun k h6 h7 h8 => by
        rcases (hkk k h6 t h8).2 with h9 | h9
        · exact h7 h9
        · exact h9 ht
      rw [hs] at this
      exact (Option.some.inj this).symm
    have hsl : ∀ t, t ∈ o.looksAt ops → (frB ops a (getV vs) i)[t]? = (frameAt ops (getV vs) allS a q)[t]? := fun t ht => by
      rw [slot_all hap hi (by omega) ho ht]
      have h1 : (frameAt ops (getV vs) allS a q)[t]? = (frameAt ops (getV vs) (fun k => decide (k < i)) a q)[t]? := frameAt_get t q fun k hk hdst => by
        by_cases hki : k < i
        · simp [allS, hki]
        · exfalso
          rcases (hkk k hk t hdst).1 with h2 | h2
          · omega
          · exact h2 ht
      rw [h1, frameAt_tail (i := i) q (by omega) (fun k h1 _ => by simp; omega)]
      exact frameAt_get t i fun k hk _ => by simp [allS, hk]
    have v2 : evOp P o.op (frB ops a (getV vs) i) M = some (x, M) := by
      rw [evOp_congr P o.op _ (ev_looks hsl)]
      exact sVal_spec (P := P) h1.look (fun _ _ h => h) x2
    rw [hv]; exact v2
  · rename_i hwant
    rw [if_neg hwant] at hD
    exact hD.1
def alOf : Nat → List Value → AL
  | _, [] => []
  | i, v :: r => (i, v) :: alOf (i + 1) r
theorem alOf_get : ∀ (l : List Value) (i t : Nat) (v : Value), AL.get (alOf i l) t = some v → i ≤ t ∧ l[t - i]? = some v
  | [], i, t, v, h => by cases h
  | x :: r, i, t, v, h => by
    simp only [alOf, AL.get] at h
    split at h
    · rename_i e; subst e; cases h; exact ⟨Nat.le_refl _, by simp⟩
    · rename_i e
      obtain ⟨h1, h2⟩ := alOf_get r (i + 1) t v h
      exact ⟨by omega, by rw [show t - i = (t - (i + 1)) + 1 by omega]; exact h2⟩
def sAnswer (P : Program) (rs : List ResultVar) (f : AL) (m : Mem) : Option Value := match sRes P rs f m with
  | some [v] => some v
  | some l => some (.tuple l.toArray)
  | none => none
where sRes (P : Program) : List ResultVar → AL → Mem → Option (List Value)
  | [], _, _ => some []
  | .tmp t :: r, f, m => match AL.get f t with
    | some v => match sRes P r f m with
      | some l => some (v :: l)
      | none => none
    | none => none
  | .cell p t :: r, f, m => match AL.get f p with
    | some q => match aLoad P m t q with
      | some v => match sRes P r f m with
        | some l => some (v :: l)
        | none => none
      | none => none
    | none => none
theorem sRes_spec {P : Program} {n : Nat} {f : AL} {a : List Value} {m : Mem} (ha : Knows n f a) : ∀ (rs : List ResultVar) (l : List Value), sAnswer.sRes P rs f m = some l → aResults P a m rs = some l
  | [], l, h => h
  | .tmp t :: r, l, h => by
    unfold sAnswer.sRes at h
    split at h <;> first | (cases h; done) | skip
    rename_i v hv
    split at h <;> first | (cases h; done) | skip
    rename_i l' hl
    cases h
    simp only [aResults, aResult, ha.2 t v hv, sRes_spec ha r l' hl]
  | .cell p t :: r, l, h => by
    unfold sAnswer.sRes at h
    split at h <;> first | (cases h; done) | skip
    rename_i q hq
    split at h <;> first | (cases h; done) | skip
    rename_i v hv
    split at h <;> first | (cases h; done) | skip
    rename_i l' hl
    cases h
    simp only [aResults, aResult, ha.2 p q hq, hv, sRes_spec ha r l' hl]
def sEnd (P : Program) (rs : List ResultVar) (R : Value → Mem → Prop) : Exit → AL → Mem → Prop
  | .ret, f, m => @withV _ (sAnswer P rs f m) ⟨fun v => R v m⟩
  | .normal, f, m => @withV _ (sAnswer P rs f m) ⟨fun v => R v m⟩
  | _, _, _ => False
end
theorem Spec.walk {P : Program} {k : FuncId} {fn : Func} {c : Code} {xs : List Value} {m : Mem} {R : Value → Mem → Prop} (hf : P.funcs[k]? = some fn) (hb : fn.body = some c) (rs : Array ResultVar) (hr : fn.results = rs) (n : Nat) (hn : fn.ntmps = n) (hx : xs.length ≤ n)
    (h : SW P n c (sEnd P rs.toList R) (alOf 0 xs) m) : Spec P k xs m R := by
  subst hr; subst hn
  refine Spec.of hf hb ((h (aFrame fn xs) ⟨by simp [aFrame]; omega, fun t v hv => ?_⟩).mono ?_)
  · obtain ⟨_, h2⟩ := alOf_get xs 0 t v hv
    unfold aFrame
    rw [List.getElem?_append, if_pos]
    · exact h2
    · exact (List.getElem?_eq_some_iff.1 h2).1
  · rintro e a' m' ⟨f', h1, h2⟩
    have ans : ∀ v, sAnswer P fn.results.toList f' m' = some v → aAnswer P fn.results.toList a' m' = some v := fun v hv => by
      unfold sAnswer at hv
      unfold aAnswer
      split at hv <;> first | (cases hv; done) | skip
      · rename_i v0 hv0; cases hv; simp only [sRes_spec h1 _ _ hv0]
      · rename_i l hne hl
        cases hv
        simp only [sRes_spec h1 _ _ hl]
    cases e <;> simp only [sEnd] at h2 <;> first | exact h2.elim | skip
    all_goals
      obtain ⟨v, h3, h4⟩ := withV_spec h2
      exact ⟨by simp, v, ans v h3, h4⟩
theorem Spec.of_below {P : Program} {k : FuncId} {xs : List Value} {m : Mem} {v : Value} (hv : flat 3 v = true) (h : ∀ (ι : Nat → Loc) (w : World) (ys : List Value), VRels m.Has ι xs ys → Rel ι m w → Calls P k ys.toArray w fun e w' => e = .returned v ∧ Below w.heap.size w w') :
    Spec P k xs m fun u m' => u = v ∧ m' = m := by
  intro ι w ys hy hr
  refine (h ι w ys hy hr).mono ?_
  rintro e w' ⟨rfl, hb⟩
  refine ⟨v, v, ι, m, ⟨rfl, rfl⟩, rfl, flat_rel 3 v hv, hr.same hb.block, ⟨hb.os, hb.tape, hb.output, hb.size, fun b h => h, fun _ _ => rfl, fun g hg _ => hb.block g hg, fun b hb => .inr ⟨b, hb, rfl⟩⟩⟩
theorem flats_eq {n : Nat → Prop} {ι : Nat → Loc} {xs ys : List Value} (hx : ∀ x ∈ xs, flat 3 x = true) (h : VRels n ι xs ys) : ys = xs := by
  apply List.ext_getElem?
  intro i
  cases hxi : xs[i]? with
  | none =>
    rw [List.getElem?_eq_none_iff] at hxi ⊢
    have := h.1; omega
  | some x =>
    obtain ⟨y, hy, hr⟩ := h.get hxi
    rw [hy, flat_eq 3 x y (hx x (List.mem_of_getElem? hxi)) hr]
theorem Spec.of_flat {P : Program} {k : FuncId} {xs : List Value} {m : Mem} {v : Value} (hx : ∀ x ∈ xs, flat 3 x = true) (hv : flat 3 v = true) (h : ∀ w, Calls P k xs.toArray w fun e w' => e = .returned v ∧ Below w.heap.size w w') :
    Spec P k xs m fun u m' => u = v ∧ m' = m :=
  Spec.of_below hv fun ι w ys hy _ => by rw [flats_eq hx hy]; exact h w
theorem Calls.of_flat {P : Program} {k : FuncId} {xs : List Value} {R : Value → Mem → Prop} (hx : ∀ x ∈ xs, flat 3 x = true) (h : Spec P k xs ⟨[]⟩ R) (w : World) (hg : GlobK w := by trivial) :
    Calls P k xs.toArray w fun e w' => ∃ v v' κ m', R v m' ∧ e = .returned v' ∧ VRel m'.Has κ v v' ∧ Rel κ m' w' ∧ Below w.heap.size w w' := by
  refine (h (fun _ => ⟨0, 0, 0, 0⟩) w xs ⟨rfl, fun i x y h1 h2 => ?_⟩ ⟨fun b ro s cs hb => ?_, fun b x hb => ?_, fun b b' hb => ?_, ⟨hg, fun b ⟨y, hb, _⟩ => ?_⟩⟩).mono ?_
  · rw [h1] at h2; cases h2
    exact flat_rel 3 x (hx x (List.mem_of_getElem? h1))
  · have := Mem.get_lt hb; simp [Mem.size] at this
  · have := Mem.get_lt hb; simp [Mem.size] at this
  · obtain ⟨x, hx⟩ := Option.ne_none_iff_exists'.1 hb
    have := Mem.get_lt hx; simp [Mem.size] at this
  · have := Mem.get_lt hb; simp [Mem.size] at this
  · rintro e w' ⟨v, v', κ, m', hR, rfl, hv, hr, hs⟩
    refine ⟨v, v', κ, m', hR, rfl, hv, hr, hs.os, hs.tape, hs.output, hs.size, fun g hg => hs.block g hg fun b ⟨y, hb, _⟩ => ?_⟩
    have := Mem.get_lt hb; simp [Mem.size] at this
end Go.Proofs.YtabffcplbjaklaaGreatDoor.Abs
namespace Go.Proofs.YtabffcplbjaklaaGreatDoor.Abs
open Go Go.RowKit Go.ChangeShapes Go.WideShapes
inductive ARep (P : Program) (m : Mem) (B : Nat) : TypeId → List Value → Prop
  | bool {t : TypeId} (h : P.underlying t = some .bool) (b : Bool) : ARep P m B t [.bool b]
  | int {t : TypeId} {k : IntKind} (h : P.underlying t = some (.int k)) (n : Int) (hw : (Lit.int k n).wf = true) : ARep P m B t [.int k n]
  | string {t : TypeId} (h : P.underlying t = some .string) (s : ByteArray) (hs : s.size ≤ B) : ARep P m B t [.string s]
  | nil {t e : TypeId} (h : P.underlying t = some (.slice e)) : ARep P m B t [.slice none 0 0]
  | empty {t e : TypeId} (h : P.underlying t = some (.slice e)) (b cap : Nat) (hb : m.Has b) (hc : cap ≤ maxLen) (hB : cap ≤ B ∧ cap * P.bytesOf e ≤ reachBytes) : ARep P m B t [.slice (some ⟨b, 0, none⟩) 0 cap]
  | slice {t e : TypeId} (h : P.underlying t = some (.slice e)) (b len cap : Nat) (all : List Value) (hb : m.get b = some (.cells true (P.cellsOf e) all)) (hl : all.length = len * P.cellsOf e) (hlc : len ≤ cap) (hc : cap ≤ maxLen) (hB : cap ≤ B ∧ cap * P.bytesOf e ≤ reachBytes)
      (hx : ∀ i, i < len → ARep P m B e ((all.drop (i * P.cellsOf e)).take (P.cellsOf e))) : ARep P m B t [.slice (some ⟨b, 0, none⟩) len cap]
  | struct {t : TypeId} {fs : Array Field} (h : P.underlying t = some (.struct fs)) (cs : List Value) (hl : cs.length = P.cellsOf t) (hx : ∀ f ∈ fs.toList, ARep P m B f.type ((cs.drop f.offset).take (P.cellsOf f.type))) : ARep P m B t cs
  | array {t e : TypeId} {n : Nat} (h : P.underlying t = some (.array n e)) (cs : List Value) (hl : cs.length = P.cellsOf t) (hx : ∀ i, i < n → ARep P m B e ((cs.drop (i * P.cellsOf e)).take (P.cellsOf e))) : ARep P m B t cs
theorem ARep.mono {P : Program} {m m' : Mem} {B : Nat} {t : TypeId} {cs : List Value} (h : ARep P m B t cs) (hh : ∀ b, m.Has b → m'.Has b) (hg : ∀ b x, m.get b = some x → m'.get b = some x) : ARep P m' B t cs := by
  induction h with
  | bool h b => exact .bool h b
  | int h n hw => exact .int h n hw
  | string h s hs => exact .string h s hs
  | nil h => exact .nil h
  | empty h b cap hb hc hB => exact .empty h b cap (hh b hb) hc hB
  | slice h b len cap all hb hl hlc hc hB _ ih => exact .slice h b len cap all (hg _ _ hb) hl hlc hc hB ih
  | struct h cs hl _ ih => exact .struct h cs hl ih
  | array h cs hl _ ih => exact .array h cs hl ih
structure Lifted (ι : Nat → Loc) (m : Mem) (w : World) : Prop where
  rel : Rel ι m w
  ro : ∀ b, ¬ m.Own b
structure Lifts (ι : Nat → Loc) (m : Mem) (κ : Nat → Loc) (m' : Mem) : Prop where
  has : ∀ b, m.Has b → m'.Has b
  at_ : ∀ b, m.Has b → κ b = ι b
  get : ∀ b x, m.get b = some x → m'.get b = some x
theorem Lifts.refl (ι : Nat → Loc) (m : Mem) : Lifts ι m ι m := ⟨fun _ h => h, fun _ _ => rfl, fun _ _ h => h⟩
theorem Lifts.trans {ι κ μ : Nat → Loc} {m m' m'' : Mem} (h : Lifts ι m κ m') (k : Lifts κ m' μ m'') : Lifts ι m μ m'' :=
  ⟨fun b hb => k.has b (h.has b hb), fun b hb => (k.at_ b (h.has b hb)).trans (h.at_ b hb), fun b x hb => k.get b x (h.get b x hb)⟩
theorem Lifts.rels {ι κ : Nat → Loc} {m m' : Mem} (h : Lifts ι m κ m') {xs ys : List Value} (hr : VRels m.Has ι xs ys) : VRels m'.Has κ xs ys := hr.mono h.has h.at_
theorem Lifted.nil (w : World) (hg : GlobK w) : Lifted (fun _ => ⟨0, 0, 0, 0⟩) ⟨[]⟩ w :=
  ⟨⟨fun b ro s cs hb => by have := Mem.get_lt hb; simp [Mem.size] at this, fun b x hb => by have := Mem.get_lt hb; simp [Mem.size] at this, fun b b' hb => by
    obtain ⟨x, hx⟩ := Option.ne_none_iff_exists'.1 hb
    have := Mem.get_lt hx; simp [Mem.size] at this, ⟨hg, fun b ⟨y, hb, _⟩ => by have := Mem.get_lt hb; simp [Mem.size] at this⟩⟩, fun b ⟨y, hb, _⟩ => by have := Mem.get_lt hb; simp [Mem.size] at this⟩
def pushDead (m : Mem) : Mem := ⟨m.blks ++ [some none]⟩
theorem get_dead {m : Mem} {b : Nat} {x : Blk} (h : (pushDead m).get b = some x) : m.get b = some x := by
  have h1 := Mem.get_some h
  unfold pushDead at h1
  simp only [List.getElem?_append] at h1
  split at h1
  · unfold Mem.get; rw [h1]
  · rename_i hb
    cases hk : b - m.blks.length with
    | zero => rw [hk] at h1; simp at h1
    | succ k => rw [hk] at h1; simp at h1
theorem has_dead {m : Mem} {b : Nat} (h : m.Has b) : (pushDead m).Has b := by
  obtain ⟨o, ho⟩ := h
  have hl := (List.getElem?_eq_some_iff.1 ho).1
  exact ⟨o, by unfold pushDead; rw [List.getElem?_append, if_pos hl]; exact ho⟩
theorem has_dead_new (m : Mem) : (pushDead m).Has m.size := ⟨none, by simp [pushDead, Mem.size]⟩
theorem dead_get {m : Mem} {b : Nat} {x : Blk} (h : m.get b = some x) : (pushDead m).get b = some x := by
  have h1 := Mem.get_some h
  have hl := (List.getElem?_eq_some_iff.1 h1).1
  unfold Mem.get pushDead
  rw [List.getElem?_append, if_pos hl, h1]
theorem Lifted.dead {ι : Nat → Loc} {m : Mem} {w : World} (h : Lifted ι m w) (l : Loc) : Lifted (newLoc ι m.size l) (pushDead m) w ∧ Lifts ι m (newLoc ι m.size l) (pushDead m) := by
  have hat : ∀ b, m.Has b → newLoc ι m.size l b = ι b := fun b hb => newLoc_old l (Mem.has_lt hb)
  refine ⟨⟨⟨fun b ro s cs hb => ?_, fun b x hb => (by rw [hat b (Mem.get_has (get_dead hb))]; exact (h.rel.oth b x (get_dead hb)).mono (fun _ => has_dead) hat), fun b b' _ ⟨y, hb', hy⟩ _ => absurd ⟨y, get_dead hb', hy⟩ (h.ro b'), ⟨h.rel.glob.known, fun b ⟨y, hb, hy⟩ => absurd ⟨y, get_dead hb, hy⟩ (h.ro b)⟩⟩, fun b ⟨y, hb, hy⟩ => h.ro b ⟨y, get_dead hb, hy⟩⟩, ⟨fun _ => has_dead, hat, fun _ _ => dead_get⟩⟩
  have hg := get_dead hb
  rw [hat b (Mem.get_has hg)]
  obtain ⟨C, e, fz, h1, h2, h3, h4, h5, h6⟩ := h.rel.at' b ro s cs hg
  exact ⟨C, e, fz, h1, h2, h3, h4, fun i v hi => by
    obtain ⟨h7, v', h8, h9⟩ := h5 i v hi
    exact ⟨h7, v', h8, h9.mono (fun _ => has_dead) hat⟩, h6⟩
theorem Lifted.push {ι : Nat → Loc} {m : Mem} {w : World} (h : Lifted ι m w) (l : Loc) (cs : List Value) (C : Array Value) (e : TypeId) (fz : Nat × Nat) (hC : w.heap[l.blk]? = some (.cells C e fz)) (hs : C.size = l.size) (hl : l.base + cs.length ≤ C.size)
    (hv : ∀ i v, cs[i]? = some v → v.oneCell' = true ∧ ∃ v', C[l.base + i]? = some v' ∧ VRel m.Has ι v v') (hst : TagAt l.base l.stride e C.size cs.length) : Lifted (newLoc ι m.size l) (m.push (.cells true l.stride cs)) w ∧ Lifts ι m (newLoc ι m.size l) (m.push (.cells true l.stride cs)) := by
  have hat : ∀ b, m.Has b → newLoc ι m.size l b = ι b := fun b hb => newLoc_old l (Mem.has_lt hb)
  have hnot : ∀ b, ¬ (m.push (.cells true l.stride cs)).Own b := by
    rintro b ⟨y, hb, hy⟩
    rcases Mem.get_push hb with ⟨_, hg⟩ | ⟨_, hx⟩
    · exact h.ro b ⟨y, hg, hy⟩
    · cases hx; cases hy
  have mono : ∀ {v v' : Value}, VRel m.Has ι v v' → VRel (m.push (.cells true l.stride cs)).Has (newLoc ι m.size l) v v' := fun hv => hv.mono (fun _ hb => Mem.has_push _ hb) hat
  refine ⟨⟨⟨fun b ro s cs' hb => ?_, fun b x hb => (by
    rcases Mem.get_push hb with ⟨hlt, hg⟩ | ⟨rfl, hx⟩
    · rw [hat b (Mem.get_has hg)]
      exact (h.rel.oth b x hg).mono (fun _ hb => Mem.has_push _ hb) hat
    · cases hx; trivial), fun b b' _ hb' _ => absurd hb' (hnot b'), ⟨h.rel.glob.known, fun b hb => absurd hb (hnot b)⟩⟩, hnot⟩, ⟨fun _ hb => Mem.has_push _ hb, hat, fun b x hb => by rw [Mem.get_push_old (Mem.get_lt hb)]; exact hb⟩⟩
  rcases Mem.get_push hb with ⟨hlt, hg⟩ | ⟨rfl, hx⟩
  · rw [hat b (Mem.get_has hg)]
    obtain ⟨C, e, fz, h1, h2, h3, h4, h5, h6⟩ := h.rel.at' b ro s cs' hg
    exact ⟨C, e, fz, h1, h2, h3, h4, fun i v hi => by
      obtain ⟨h7, v', h8, h9⟩ := h5 i v hi
      exact ⟨h7, v', h8, mono h9⟩, h6⟩
  · cases hx
    rw [newLoc_new]
    exact ⟨C, e, fz, hC, hs, ⟨rfl, hst⟩, hl, fun i v hi => by
      obtain ⟨h7, v', h8, h9⟩ := hv i v hi
      exact ⟨h7, v', h8, mono h9⟩, fun hf => by cases hf⟩
def tiles (P : Program) : Nat → List Field → Option Nat
  | o, [] => some o
  | o, f :: r => if f.offset = o then tiles P (o + P.cellsOf f.type) r else none
def liftable (P : Program) : Nat → TypeId → Bool
  | 0, _ => false
  | d + 1, t => match P.underlying t with
    | some .bool => true
    | some (.int _) => true
    | some .string => true
    | some (.slice e) => decide (0 < P.cellsOf e ∧ 0 < P.bytesOf e ∧ P.bytesOf e ≤ 67108864) && liftable P d e
    | some (.struct fs) => (tiles P 0 fs.toList == some (P.cellsOf t)) && fs.toList.all fun f => liftable P d f.type
    | some (.array n e) => (n * P.cellsOf e == P.cellsOf t) && liftable P d e
    | _ => false
section
variable {H : Type} {enc : TypeId × Value → H} {P : Program} {B : Nat} {w : World} {base : Nat}
def LiftOne (P : Program) (B : Nat) (w : World) (t : TypeId) (cs : List Value) : Prop := ∀ (ι : Nat → Loc) (m : Mem), Lifted ι m w → ∃ (κ : Nat → Loc) (m' : Mem) (cs' : List Value), Lifted κ m' w ∧ Lifts ι m κ m' ∧ ARep P m' B t cs' ∧ VRels m'.Has κ cs' cs ∧ ∀ v ∈ cs', v.oneCell' = true
theorem lift_many : ∀ (its : List (TypeId × List Value)), (∀ x ∈ its, LiftOne P B w x.1 x.2) → ∀ (ι : Nat → Loc) (m : Mem), Lifted ι m w → ∃ (κ : Nat → Loc) (m' : Mem) (css : List (List Value)), Lifted κ m' w ∧ Lifts ι m κ m' ∧ css.length = its.length ∧
    (∀ (i : Nat) (x : TypeId × List Value) (cs : List Value), its[i]? = some x → css[i]? = some cs → ARep P m' B x.1 cs ∧ cs.length = x.2.length) ∧ VRels m'.Has κ css.flatten (its.flatMap (·.2)) ∧ ∀ v ∈ css.flatten, v.oneCell' = true
  | [], _, ι, m, hl => ⟨ι, m, [], hl, Lifts.refl ι m, rfl, fun i x cs h => by simp at h, .nil, fun v hv => by simp at hv⟩
  | x :: r, h, ι, m, hl => by
    obtain ⟨κ, m1, cs, h1, h2, h3, h4, h5⟩ := h x (by simp) ι m hl
    obtain ⟨μ, m2, css, g1, g2, g3, g4, g5, g6⟩ := lift_many r (fun y hy => h y (by simp [hy])) κ m1 h1
    refine ⟨μ, m2, cs :: css, g1, h2.trans g2, by simp [g3], fun i y cs' hy hc => ?_, ?_, ?_⟩
    · cases i with
      | zero =>
        simp at hy hc; subst hy; subst hc
        exact ⟨h3.mono g2.has g2.get, h4.1⟩
      | succ i => exact g4 i y cs' (by simpa using hy) (by simpa using hc)
    · rw [List.flatten_cons, List.flatMap_cons]
      exact (g2.rels h4).append g5
    · intro v hv
      rw [List.flatten_cons, List.mem_append] at hv
      rcases hv with hv | hv
      · exact h5 v hv
      · exact g6 v hv
theorem flatten_at : ∀ (css : List (List Value)) (i : Nat) (cs : List Value), css[i]? = some cs → (css.flatten.drop (((css.take i).map List.length).sum)).take cs.length = cs
  | [], i, cs, h => by simp at h
  | x :: r, 0, cs, h => by simp at h; subst h; simp
  | x :: r, i + 1, cs, h => by
    have := flatten_at r i cs (by simpa using h)
    rw [List.flatten_cons, List.take_succ_cons, List.map_cons, List.sum_cons, List.drop_append, ]
    rw [List.drop_eq_nil_of_le (by omega), List.nil_append, Nat.add_sub_cancel_left]
    exact this
theorem tiles_at : ∀ (fs : List Field) (o n : Nat), tiles P o fs = some n → n = o + (fs.map fun f => P.cellsOf f.type).sum ∧ ∀ i f, fs[i]? = some f → f.offset = o + ((fs.take i).map fun f => P.cellsOf f.type).sum
  | [], o, n, h => by simp [tiles] at h; subst h; exact ⟨by simp, fun i f h => by simp at h⟩
  | g :: r, o, n, h => by
    unfold tiles at h
    split at h
    · rename_i hg
      obtain ⟨h1, h2⟩ := tiles_at r _ n h
      refine ⟨by rw [h1]; simp; omega, fun i f hf => ?_⟩
      cases i with
      | zero => simp at hf; subst hf; simp [hg]
      | succ i =>
        rw [h2 i f (by simpa using hf)]
        simp; omega
    · cases h
theorem sum_const : ∀ (l : List Nat) (n : Nat), (∀ x ∈ l, x = n) → l.sum = l.length * n
  | [], n, _ => by simp
  | x :: r, n, h => by
    rw [List.sum_cons, sum_const r n (fun y hy => h y (by simp [hy])), h x (by simp), List.length_cons, Nat.add_mul]
    omega
theorem flatMap_stretch : ∀ (k n : Nat) (cs : List Value), cs.length = k * n → ((List.range k).flatMap fun i => (cs.drop (i * n)).take n) = cs
  | 0, n, cs, h => by simp at h; simp [h]
  | k + 1, n, cs, h => by
    rw [List.range_succ, List.flatMap_append]
    have e : ((List.range k).flatMap fun i => (cs.drop (i * n)).take n) = ((List.range k).flatMap fun i => ((cs.take (k * n)).drop (i * n)).take n) := by
      rw [List.flatMap_def, List.flatMap_def]
      congr 1
      refine List.map_congr_left fun i hi => ?_
      have hi : i < k := by simpa using hi
      have : i * n + n ≤ k * n := by
        have := Nat.mul_le_mul_right n (show i + 1 ≤ k by omega)
        rw [Nat.add_mul] at this; omega
      rw [List.drop_take, List.take_take, Nat.min_eq_left (by omega)]
    rw [e, flatMap_stretch k n (cs.take (k * n)) (by rw [List.length_take, Nat.min_eq_left]; rw [h, Nat.add_mul]; omega)]
    rw [Nat.add_mul] at h
    simp only [List.flatMap_cons, List.flatMap_nil, List.append_nil]
    rw [List.take_of_length_le (l := cs.drop (k * n)) (by rw [List.length_drop]; omega), List.take_append_drop]
theorem tiles_stretch : ∀ (fs : List Field) (o n : Nat) (cs : List Value), tiles P o fs = some n → cs.length = n → (fs.flatMap fun f => (cs.drop f.offset).take (P.cellsOf f.type)) = cs.drop o
  | [], o, n, cs, h, hl => by
    simp [tiles] at h; subst h
    rw [List.drop_eq_nil_of_le (by omega)]; rfl
  | g :: r, o, n, cs, h, hl => by
    unfold tiles at h
    split at h
    · rename_i hg
      rw [List.flatMap_cons, tiles_stretch r _ n cs h hl, hg, ← List.drop_drop]
      exact List.take_append_drop _ _
    · cases h
theorem tiles_le : ∀ (fs : List Field) (o n : Nat), tiles P o fs = some n → o ≤ n
  | [], o, n, h => by simp [tiles] at h; omega
  | g :: r, o, n, h => by
    unfold tiles at h
    split at h
    · have := tiles_le r _ n h; omega
    · cases h
theorem tiles_len : ∀ (fs : List Field) (o n : Nat) (cs : List Value), tiles P o fs = some n → cs.length = n → ∀ f ∈ fs, ((cs.drop f.offset).take (P.cellsOf f.type)).length = P.cellsOf f.type
  | [], o, n, cs, h, hl, f, hf => by simp at hf
  | g :: r, o, n, cs, h, hl, f, hf => by
    unfold tiles at h
    split at h
    · rename_i hg
      have := tiles_le r _ n h
      rcases List.mem_cons.1 hf with rfl | hf
      · rw [List.length_take, List.length_drop, hg]; omega
      · exact tiles_len r _ n cs h hl f hf
    · cases h
theorem many_len (its : List (TypeId × List Value)) (css : List (List Value)) (h3 : css.length = its.length) {m : Mem}
    (h4 : ∀ (i : Nat) (x : TypeId × List Value) (cs : List Value), its[i]? = some x → css[i]? = some cs → ARep P m B x.1 cs ∧ cs.length = x.2.length) : css.map List.length = its.map fun x => x.2.length := by
  apply List.ext_getElem (by simp [h3])
  intro i h1 h2
  simp only [List.getElem_map]
  simp only [List.length_map] at h1 h2
  exact (h4 i _ _ (List.getElem?_eq_getElem h2) (List.getElem?_eq_getElem h1)).2
theorem lift_row (e : TypeId) (N len : Nat) (cs0 : List Value) (hl : cs0.length = len * N) (h : ∀ i, i < len → LiftOne P B w e ((cs0.drop (i * N)).take N)) (ι : Nat → Loc) (m : Mem) (hL : Lifted ι m w) :
    ∃ (κ : Nat → Loc) (m' : Mem) (cs' : List Value), Lifted κ m' w ∧ Lifts ι m κ m' ∧ cs'.length = len * N ∧ (∀ i, i < len → ARep P m' B e ((cs'.drop (i * N)).take N)) ∧ VRels m'.Has κ cs' cs0 ∧ ∀ v ∈ cs', v.oneCell' = true := by
  have hst : ∀ i, i < len → ((cs0.drop (i * N)).take N).length = N := by
    intro i hi
    have := Nat.mul_le_mul_right N (show i + 1 ≤ len by omega)
    rw [Nat.add_mul] at this
    rw [List.length_take, List.length_drop]; omega
  obtain ⟨κ, m', css, g1, g2, g3, g4, g5, g6⟩ := lift_many (P := P) (B := B) (w := w) ((List.range len).map fun i => (e, (cs0.drop (i * N)).take N)) (by
    intro x hx
    obtain ⟨i, hi, rfl⟩ := List.mem_map.1 hx
    exact h i (by simpa using hi)) ι m hL
  have hmap : ((List.range len).map fun i => (e, (cs0.drop (i * N)).take N)).flatMap (·.2) = cs0 := by
    rw [List.flatMap_map]
    exact flatMap_stretch len N cs0 hl
  rw [hmap] at g5
  have hml := many_len _ css g3 g4
  have hN : ∀ k, k ∈ css.map List.length → k = N := by
    intro k hk
    rw [hml, List.map_map] at hk
    obtain ⟨i, hi, rfl⟩ := List.mem_map.1 hk
    exact hst i (by simpa using hi)
  refine ⟨κ, m', css.flatten, g1, g2, by rw [g5.1, hl], fun i hi => ?_, g5, g6⟩
  have hi2 : i < css.length := by rw [g3]; simpa using hi
  have h7 := flatten_at css i _ (List.getElem?_eq_getElem hi2)
  rw [sum_const _ N (fun x hx => hN x (by rw [List.map_take] at hx; exact List.mem_of_mem_take hx)), List.length_map, List.length_take, Nat.min_eq_left (by omega), hN css[i].length (List.mem_map.2 ⟨_, List.getElem_mem _, rfl⟩)] at h7
  rw [h7]
  exact (g4 i (e, (cs0.drop (i * N)).take N) css[i] (by simp [hi]) (List.getElem?_eq_getElem hi2)).1
theorem lift_fields (t : TypeId) (fs : Array Field) (hu : P.underlying t = some (.struct fs)) (ht : tiles P 0 fs.toList = some (P.cellsOf t)) (cs0 : List Value) (hl : cs0.length = P.cellsOf t)
    (h : ∀ f ∈ fs.toList, LiftOne P B w f.type ((cs0.drop f.offset).take (P.cellsOf f.type))) : LiftOne P B w t cs0 := by
  intro ι m hL
  obtain ⟨κ, m', css, g1, g2, g3, g4, g5, g6⟩ := lift_many (P := P) (B := B) (w := w) (fs.toList.map fun f => (f.type, (cs0.drop f.offset).take (P.cellsOf f.type))) (by
    intro x hx
    obtain ⟨f, hf, rfl⟩ := List.mem_map.1 hx
    exact h f hf) ι m hL
  have hmap : (fs.toList.map fun f => (f.type, (cs0.drop f.offset).take (P.cellsOf f.type))).flatMap (·.2) = cs0 := by
    rw [List.flatMap_map]
    have := tiles_stretch fs.toList 0 _ cs0 ht hl
    rw [List.drop_zero] at this
    exact this
  rw [hmap] at g5
  have hml := many_len _ css g3 g4
  have hcf : css.map List.length = fs.toList.map fun f => P.cellsOf f.type := by
    rw [hml, List.map_map]
    exact List.map_congr_left fun f hf => tiles_len fs.toList 0 _ cs0 ht hl f hf
  refine ⟨κ, m', css.flatten, g1, g2, .struct hu _ (by rw [g5.1, hl]) fun f hf => ?_, g5, g6⟩
  obtain ⟨i, hi, hfi⟩ := List.getElem_of_mem hf
  have hi2 : i < css.length := by rw [g3]; simpa using hi
  have hoff := (tiles_at fs.toList 0 _ ht).2 i f (by rw [List.getElem?_eq_getElem hi, hfi])
  have h7 := flatten_at css i _ (List.getElem?_eq_getElem hi2)
  have hlen : css[i].length = P.cellsOf f.type := by
    have := (g4 i (f.type, (cs0.drop f.offset).take (P.cellsOf f.type)) css[i] (by rw [List.getElem?_map, List.getElem?_eq_getElem hi, hfi]; rfl) (List.getElem?_eq_getElem hi2)).2
    rw [this]
    exact tiles_len fs.toList 0 _ cs0 ht hl f hf
  rw [List.map_take, hcf, ← List.map_take, ← Nat.zero_add (List.sum _), ← hoff, hlen] at h7
  rw [h7]
  exact (g4 i (f.type, (cs0.drop f.offset).take (P.cellsOf f.type)) css[i] (by rw [List.getElem?_map, List.getElem?_eq_getElem hi, hfi]; rfl) (List.getElem?_eq_getElem hi2)).1
theorem lift_slice (t e : TypeId) (hu : P.underlying t = some (.slice e)) (hN : 0 < P.cellsOf e) (a : Addr) (len cap : Nat) (hlc : len ≤ cap) (hc : cap ≤ maxLen) (hB : cap ≤ B ∧ cap * P.bytesOf e ≤ reachBytes)
    (h : ∀ i, i < len → ∃ cs, w.cells? base (a.add (i * P.cellsOf e)) (P.cellsOf e) = some cs ∧ LiftOne P B w e cs) (hsp : 0 < cap → a.spot = none) : LiftOne P B w t [.slice (some a) len cap] := by
  intro ι m hL
  obtain ⟨b, off, sp⟩ := a
  by_cases h0 : len = 0
  · subst h0
    obtain ⟨g1, g2⟩ := hL.dead ⟨b, off, 0, 0⟩
    refine ⟨_, _, [.slice (some ⟨m.size, 0, none⟩) 0 cap], g1, g2, .empty hu _ _ (has_dead_new m) hc hB, .cons ?_ .nil, fun v hv => by simp at hv; subst hv; rfl⟩
    by_cases hc0 : cap = 0
    · subst hc0
      exact .empty _ _ _ (has_dead_new m)
    · have hsp := hsp (by omega)
      simp only at hsp
      subst hsp
      have := VRel.slice (n := (pushDead m).Has) (ι := newLoc ι m.size ⟨b, off, 0, 0⟩) m.size 0 0 cap cap (has_dead_new m) (Nat.zero_le _) (.inl rfl)
      rw [newLoc_new] at this
      exact this
  · obtain ⟨N, hNe⟩ : ∃ N, N = P.cellsOf e := ⟨_, rfl⟩
    rw [← hNe] at hN h
    have hsp := hsp (by omega)
    simp only at hsp
    subst hsp
    have hcell : ∀ i, i < len → ∃ cs, w.cells? base (⟨b, off + i * N, none⟩ : Addr) N = some cs ∧ LiftOne P B w e cs := by
      intro i hi
      have := h i hi
      rwa [Addr_add] at this
    obtain ⟨cs1, hc1, _⟩ := hcell 0 (by omega)
    obtain ⟨hl1, hg1⟩ := cells?_get hc1
    have hw0 := hg1 0 cs1[0] (List.getElem?_eq_getElem (by omega))
    rw [Addr_add] at hw0
    have hblk : ∃ C e fz, w.heap[b]? = some (.cells C e fz) := by
      unfold World.cell? at hw0
      simp only at hw0
      split at hw0
      · rename_i C e fz hC; exact ⟨C, e, fz, hC⟩
      · cases hw0
    obtain ⟨C, eC, fz, hC⟩ := hblk
    have hin : ∀ i, i < len → off + i * N + N ≤ C.size ∧ ∀ cs, w.cells? base (⟨b, off + i * N, none⟩ : Addr) N = some cs → cs = ((C.toList.drop off).drop (i * N)).take N := by
      intro i hi
      obtain ⟨cs, hcs, _⟩ := hcell i hi
      obtain ⟨hl, hg⟩ := cells?_get hcs
      have hge : ∀ j, j < N → C[off + i * N + j]? = cs[j]? := by
        intro j hj
        have := hg j cs[j] (List.getElem?_eq_getElem (by omega))
        rw [Addr_add, cell_of_block hC] at this
        rw [this, List.getElem?_eq_getElem]
      have hlast := hge (N - 1) (by omega)
      rw [List.getElem?_eq_getElem (by omega)] at hlast
      have hlt := (Array.getElem?_eq_some_iff.1 hlast).1
      refine ⟨by omega, fun cs' hcs' => ?_⟩
      rw [hcs] at hcs'
      cases hcs'
      apply List.ext_getElem?
      intro j
      by_cases hj : j < N
      · rw [← hge j hj, List.getElem?_take, if_pos hj, List.getElem?_drop, List.getElem?_drop, Array.getElem?_toList, Nat.add_assoc]
      · rw [List.getElem?_eq_none (by omega), List.getElem?_eq_none (by rw [List.length_take]; omega)]
    have hsz : off + len * N ≤ C.size := by
      have := (hin (len - 1) (by omega)).1
      rw [Nat.sub_mul, Nat.one_mul] at this
      have h2 : N ≤ len * N := Nat.le_mul_of_pos_left _ (by omega)
      omega
    have hl0 : ((C.toList.drop off).take (len * N)).length = len * N := by rw [List.length_take, List.length_drop, Array.length_toList]; omega
    obtain ⟨κ, m', cs', g1, g2, g3, g4, g5, g6⟩ := lift_row (P := P) (B := B) (w := w) e N len ((C.toList.drop off).take (len * N)) hl0 (by
      intro i hi
      obtain ⟨cs, hcs, hlo⟩ := hcell i hi
      have := (hin i hi).2 cs hcs
      have h2 := Nat.mul_le_mul_right N (show i + 1 ≤ len by omega)
      rw [Nat.add_mul] at h2
      rw [List.drop_take, List.take_take, Nat.min_eq_left (by omega), ← this]
      exact hlo) ι m hL
    have hlen : cs'.length = len * N := g3
    obtain ⟨k1, k2⟩ := g1.push ⟨b, off, C.size, N⟩ cs' C eC fz hC rfl (by simp only; omega) (by
      intro i v hi
      refine ⟨g6 v (List.mem_of_getElem? hi), ?_⟩
      obtain ⟨y, hy, hr⟩ := g5.get hi
      rw [List.getElem?_take] at hy
      split at hy
      · rw [List.getElem?_drop, Array.getElem?_toList] at hy; exact ⟨y, hy, hr⟩
      · cases hy) (.row len hlen)
    refine ⟨_, _, [.slice (some ⟨m'.size, 0, none⟩) len cap], k1, g2.trans k2, .slice hu _ _ _ cs' (by rw [← hNe]; exact Mem.get_push_new _ _) (by rw [← hNe]; exact hlen) hlc hc hB (fun i hi => ?_), .cons ?_ .nil, fun v hv => by simp at hv; subst hv; rfl⟩
    · rw [← hNe]
      exact (g4 i hi).mono k2.has k2.get
    · have := VRel.slice (n := (m'.push (.cells true N cs')).Has) (ι := newLoc κ m'.size ⟨b, off, C.size, N⟩) m'.size 0 len cap cap (Mem.has_push_new _ _) hlc (.inl rfl)
      rw [newLoc_new] at this
      exact this
structure Closed (P : Program) (B : Nat) (K : TypeId → DataW H → Prop) : Prop where
  str : ∀ t l, K t (.lit (.string l)) → l.length ≤ B
  slice : ∀ t e es sp, P.underlying t = some (.slice e) → 0 < P.bytesOf e → P.bytesOf e ≤ 67108864 → K t (.slice es sp) → (es.length + sp.length ≤ B ∧ (es.length + sp.length) * P.bytesOf e ≤ reachBytes) ∧ ∀ d ∈ es, K e d
  struct : ∀ t fs ps, P.underlying t = some (.struct fs) → K t (.agg ps) → ∀ (i : Nat) (f : Field) d, fs[i]? = some f → ps[i]? = some d → K f.type d
  array : ∀ t n e ps, P.underlying t = some (.array n e) → K t (.agg ps) → ∀ d ∈ ps, K e d
theorem lift_one {K : TypeId → DataW H → Prop} (hK : Closed P B K) : ∀ (fuel d : Nat) (t : TypeId) (cs : List Value) (x : DataW H × List MemPlace), liftable P d t = true → DataW.trod enc P w base (fun _ => true) true fuel t cs = some x → K t x.1 → LiftOne P B w t cs
  | 0, _, _, _, _, _, h, _ => by simp [DataW.trod] at h
  | fuel + 1, 0, _, _, _, hd, _, _ => by simp [liftable] at hd
  | fuel + 1, d + 1, t, cs, x, hd, h, hk => by
    intro ι m hL
    unfold liftable at hd
    have one : ∀ v, flat 3 v = true → v.oneCell' = true → ARep P m B t [v] → ∃ (κ : Nat → Loc) (m' : Mem) (cs' : List Value), Lifted κ m' w ∧ Lifts ι m κ m' ∧ ARep P m' B t cs' ∧ VRels m'.Has κ cs' [v] ∧ ∀ v ∈ cs', v.oneCell' = true := fun v hf h1 hr =>
      ⟨ι, m, [v], hL, Lifts.refl ι m, hr, .cons (flat_rel 3 v hf) .nil, fun u hu => by simp at hu; subst hu; exact h1⟩
    cases hu : P.underlying t with
    | none => simp [hu] at hd
    | some ty =>
      simp only [hu] at hd
      cases ty <;> simp only [Bool.false_eq_true] at hd
      case bool =>
        simp only [DataW.trod, hu] at h
        split at h <;> simp_all
        exact one _ rfl rfl (.bool hu _)
      case int k =>
        simp only [DataW.trod, hu] at h
        split at h <;> simp_all
        rename_i h0
        obtain ⟨⟨rfl, hw⟩, _⟩ := h
        cases h0
        exact one _ rfl rfl (.int hu _ hw)
      case string =>
        simp only [DataW.trod, hu] at h
        split at h <;> simp_all
        obtain ⟨_, rfl⟩ := h
        have := hK.str _ _ hk
        exact one _ rfl rfl (.string hu _ (by simpa using this))
      case slice e =>
        simp only [Bool.and_eq_true, decide_eq_true_eq] at hd
        simp only [DataW.trod, hu] at h
        match cs, h with
        | [.slice none 0 0], h => exact one _ rfl rfl (.nil hu)
        | [.slice (some a) len cap], h =>
          simp only at h
          split at h
          · rename_i hlc
            simp only [Option.bind_eq_some_iff, Option.map_eq_some_iff, if_true] at h
            obtain ⟨elems, h1, rest, h2, rfl⟩ := h
            obtain ⟨hkB, hke⟩ := hK.slice _ _ _ _ hu hd.1.2.1 hd.1.2.2 hk
            have hat : ∀ i y, K e y.1 → (w.cells? base (a.add (i * P.cellsOf e)) (P.cellsOf e)).bind (DataW.trod enc P w base (fun _ => true) true fuel e) = some y → ∃ cs, w.cells? base (a.add (i * P.cellsOf e)) (P.cellsOf e) = some cs ∧ LiftOne P B w e cs := by
              intro i y hky hy
              rw [Option.bind_eq_some_iff] at hy
              obtain ⟨cs, hcs, htr⟩ := hy
              exact ⟨cs, hcs, lift_one hK fuel d e cs y hd.2 htr hky⟩
            obtain ⟨l1, k1⟩ := mapM_get h1
            obtain ⟨l2, k2⟩ := mapM_get h2
            have hel : ∀ i, i < len → ∃ cs, w.cells? base (a.add (i * P.cellsOf e)) (P.cellsOf e) = some cs ∧ LiftOne P B w e cs := by
              intro i hi
              have := k1 i (by simpa using hi)
              rw [List.getElem_range, List.getElem?_eq_getElem (by rw [l1]; simpa using hi)] at this
              exact hat i _ (hke _ (List.mem_map.2 ⟨_, List.getElem_mem _, rfl⟩)) this
            refine lift_slice t e hu hd.1.1 a len cap hlc.2.1 hlc.2.2 (by
              have e1 : (elems.map (·.1)).length + (rest.map (·.1)).length = cap := by
                rw [List.length_map, List.length_map, l1, l2, List.length_range, List.length_range]; omega
              rw [e1] at hkB
              exact hkB) hel (fun hcap => ?_) ι m hL
            have : ∃ cs, w.cells? base (a.add (0 * P.cellsOf e)) (P.cellsOf e) = some cs := by
              by_cases h0 : 0 < len
              · obtain ⟨cs, hcs, _⟩ := hel 0 h0
                exact ⟨cs, hcs⟩
              · have := k2 0 (by simp; omega)
                rw [List.getElem_range, List.getElem?_eq_getElem (by rw [l2]; simp; omega)] at this
                rw [Option.bind_eq_some_iff] at this
                obtain ⟨cs, hcs, _⟩ := this
                have e0 : len + 0 = 0 := by omega
                rw [e0] at hcs
                exact ⟨cs, hcs⟩
            obtain ⟨cs, hcs⟩ := this
            obtain ⟨hl, hg⟩ := cells?_get hcs
            have := hg 0 cs[0] (List.getElem?_eq_getElem (by omega))
            have := World.cell?_spot this
            simpa [Addr.add] using this
          · cases h
      case struct fs =>
        simp only [Bool.and_eq_true, beq_iff_eq, List.all_eq_true] at hd
        simp only [DataW.trod, hu] at h
        split at h
        · rename_i hl
          simp only [Option.map_eq_some_iff] at h
          obtain ⟨xs, h1, rfl⟩ := h
          obtain ⟨l1, k1⟩ := mapM_get h1
          refine lift_fields t fs hu hd.1 cs hl (fun f hf => ?_) ι m hL
          obtain ⟨i, hi, rfl⟩ := List.getElem_of_mem hf
          have := k1 i hi
          rw [List.getElem?_eq_getElem (by rw [l1]; exact hi)] at this
          exact lift_one hK fuel d _ _ _ (hd.2 _ hf) this (hK.struct _ _ _ hu hk i _ _ (by rw [← Array.getElem?_toList, List.getElem?_eq_getElem hi]) (by rw [List.getElem?_map, List.getElem?_eq_getElem (by rw [l1]; exact hi)]; rfl))
        · cases h
      case array n e =>
        simp only [Bool.and_eq_true, beq_iff_eq] at hd
        simp only [DataW.trod, hu] at h
        split at h
        · rename_i hl
          simp only [Option.map_eq_some_iff] at h
          obtain ⟨xs, h1, rfl⟩ := h
          obtain ⟨l1, k1⟩ := mapM_get h1
          obtain ⟨κ, m', cs', g1, g2, g3, g4, g5, g6⟩ := lift_row (P := P) (B := B) (w := w) e (P.cellsOf e) n cs (by rw [hl, hd.1]) (fun i hi => by
            have := k1 i (by simpa using hi)
            rw [List.getElem_range, List.getElem?_eq_getElem (by rw [l1]; simpa using hi)] at this
            exact lift_one hK fuel d e _ _ hd.2 this (hK.array _ _ _ _ hu hk _ (List.mem_map.2 ⟨_, List.getElem_mem _, rfl⟩))) ι m hL
          exact ⟨κ, m', cs', g1, g2, .array hu cs' (by rw [g3, hd.1]) g4, g5, g6⟩
        · cases h
end
def ArgOf (P : Program) (m : Mem) (B : Nat) (t : TypeId) (v : Value) : Prop :=
  match P.underlying t with
  | some (.struct _) | some (.array _ _) => ∃ cs : List Value, v = .agg cs.toArray ∧ ARep P m B t cs
  | _ => ARep P m B t [v]
theorem ArgOf.mono {P : Program} {m m' : Mem} {B : Nat} {t : TypeId} {v : Value} (h : ArgOf P m B t v) (hh : ∀ b, m.Has b → m'.Has b) (hg : ∀ b x, m.get b = some x → m'.get b = some x) : ArgOf P m' B t v := by
  unfold ArgOf at h ⊢
  split <;> rename_i hu <;> simp only [hu] at h
  · obtain ⟨cs, e, h⟩ := h; exact ⟨cs, e, h.mono hh hg⟩
  · obtain ⟨cs, e, h⟩ := h; exact ⟨cs, e, h.mono hh hg⟩
  · exact h.mono hh hg
inductive ArgsOf (P : Program) (m : Mem) (B : Nat) : List TypeId → List Value → Prop
  | nil : ArgsOf P m B [] []
  | cons {t : TypeId} {v : Value} {ts : List TypeId} {vs : List Value} (h : ArgOf P m B t v) (hs : ArgsOf P m B ts vs) : ArgsOf P m B (t :: ts) (v :: vs)
theorem ArgsOf.mono {P : Program} {m m' : Mem} {B : Nat} {ts : List TypeId} {vs : List Value} (h : ArgsOf P m B ts vs) (hh : ∀ b, m.Has b → m'.Has b) (hg : ∀ b x, m.get b = some x → m'.get b = some x) : ArgsOf P m' B ts vs := by
  induction h with
  | nil => exact .nil
  | cons h _ ih => exact .cons (h.mono hh hg) ih
theorem lift_arg {H : Type} {enc : TypeId × Value → H} {P : Program} {B : Nat} {K : TypeId → DataW H → Prop} (hK : Closed P B K) {w : World} {base b2 : Nat} {t : TypeId} {v : Value} {d : DataW H} {ps : List MemPlace} (hl : liftable P 20 t = true) (hv : Value.okWide P w .any b2 t v)
    (h : DataW.Trod enc P w base (fun _ => true) true t v d ps) (hk : K t d) (ι : Nat → Loc) (m : Mem) (hL : Lifted ι m w) :
    ∃ (κ : Nat → Loc) (m' : Mem) (v' : Value), Lifted κ m' w ∧ Lifts ι m κ m' ∧ ArgOf P m' B t v' ∧ VRel m'.Has κ v' v := by
  obtain ⟨fuel, h⟩ := h
  obtain ⟨κ, m', cs', g1, g2, g3, g4, g5⟩ := lift_one (enc := enc) hK fuel 20 t _ _ hl h hk ι m hL
  have hrow : (∃ cs : Array Value, v = .agg cs) → ((∃ fs, P.underlying t = some (.struct fs)) ∨ (∃ n e, P.underlying t = some (.array n e))) → ∃ (κ : Nat → Loc) (m' : Mem) (v' : Value), Lifted κ m' w ∧ Lifts ι m κ m' ∧ ArgOf P m' B t v' ∧ VRel m'.Has κ v' v := by
    rintro ⟨cs, rfl⟩ ht
    refine ⟨κ, m', .agg cs'.toArray, g1, g2, ?_, VRel.aggs (by simpa [Value.cells] using g4)⟩
    unfold ArgOf
    rcases ht with ⟨fs, hu⟩ | ⟨n, e, hu⟩ <;> rw [hu] <;> exact ⟨cs', rfl, g3⟩
  have hone : v.cells.toList = [v] → (∀ fs, P.underlying t ≠ some (.struct fs)) → (∀ n e, P.underlying t ≠ some (.array n e)) → ∃ (κ : Nat → Loc) (m' : Mem) (v' : Value), Lifted κ m' w ∧ Lifts ι m κ m' ∧ ArgOf P m' B t v' ∧ VRel m'.Has κ v' v := by
    intro hc h1 h2
    rw [hc] at g4
    have hlen := g4.1
    match cs', hlen with
    | [u], _ =>
      refine ⟨κ, m', u, g1, g2, ?_, g4.2 0 u v rfl rfl⟩
      unfold ArgOf
      split
      · rename_i fs hu; exact absurd hu (h1 fs)
      · rename_i n e hu; exact absurd hu (h2 n e)
      · exact g3
  unfold liftable at hl
  unfold Value.okWide at hv
  cases hu : P.underlying t with
  | none => simp [hu] at hl
  | some ty =>
    simp only [hu] at hl hv
    cases ty <;> simp only [Bool.false_eq_true] at hl
    case bool =>
      refine hone ?_ (by simp [hu]) (by simp [hu])
      unfold Cell.okWide at hv
      simp only [hu] at hv
      unfold Cell.ok at hv
      simp only [hu] at hv
      cases v <;> simp_all [Value.cells]
    case int k =>
      refine hone ?_ (by simp [hu]) (by simp [hu])
      unfold Cell.okWide at hv
      simp only [hu] at hv
      unfold Cell.ok at hv
      simp only [hu] at hv
      cases v <;> simp_all [Value.cells]
    case string =>
      refine hone ?_ (by simp [hu]) (by simp [hu])
      unfold Cell.okWide at hv
      simp only [hu] at hv
      unfold Cell.ok at hv
      simp only [hu] at hv
      cases v <;> simp_all [Value.cells]
    case slice e =>
      refine hone ?_ (by simp [hu]) (by simp [hu])
      unfold Cell.okWide at hv
      simp only [hu] at hv
      unfold Cell.ok at hv
      simp only [hu] at hv
      cases v <;> simp_all [Value.cells]
    case struct fs =>
      obtain ⟨cs, rfl, _⟩ := hv
      exact hrow ⟨cs, rfl⟩ (.inl ⟨fs, hu⟩)
    case array n e =>
      obtain ⟨cs, rfl, _⟩ := hv
      exact hrow ⟨cs, rfl⟩ (.inr ⟨n, e, hu⟩)
theorem lift_args {H : Type} {enc : TypeId × Value → H} {P : Program} {B : Nat} {K : TypeId → DataW H → Prop} (hK : Closed P B K) {w : World} {base b2 : Nat} : ∀ (ts : List TypeId) (vs : List Value) (ds : List (DataW H)) (ps : List MemPlace), (∀ t ∈ ts, liftable P 20 t = true) →
    (∀ (j : Nat) t v, ts[j]? = some t → vs[j]? = some v → Value.okWide P w .any b2 t v) → DataW.TrodAll enc P w base (fun _ => true) true ts vs ds ps → (∀ (j : Nat) t d, ts[j]? = some t → ds[j]? = some d → K t d) → ∀ (ι : Nat → Loc) (m : Mem), Lifted ι m w →
    ∃ (κ : Nat → Loc) (m' : Mem) (vs' : List Value), Lifted κ m' w ∧ Lifts ι m κ m' ∧ ArgsOf P m' B ts vs' ∧ VRels m'.Has κ vs' vs
  | [], [], [], _, _, _, _, _, ι, m, hL => ⟨ι, m, [], hL, Lifts.refl ι m, .nil, .nil⟩
  | t :: ts, v :: vs, d :: ds, _, hl, hv, h, hk, ι, m, hL => by
    obtain ⟨p, q, h1, h2, rfl⟩ := h
    obtain ⟨κ, m1, vs', g1, g2, g3, g4⟩ := lift_args hK ts vs ds q (fun t ht => hl t (by simp [ht])) (fun j t' v' hj1 hj2 => hv (j + 1) t' v' (by simpa using hj1) (by simpa using hj2)) h2 (fun j t' d' hj1 hj2 => hk (j + 1) t' d' (by simpa using hj1) (by simpa using hj2)) ι m hL
    obtain ⟨μ, m2, v', k1, k2, k3, k4⟩ := lift_arg hK (hl t (by simp)) (hv 0 t v rfl rfl) h1 (hk 0 t d rfl rfl) κ m1 g1
    exact ⟨μ, m2, v' :: vs', k1, g2.trans k2, .cons k3 (g3.mono k2.has k2.get), .cons k4 (k2.rels g4)⟩
  | [], _ :: _, _, _, _, _, h, _, _, _, _ => by simp [DataW.TrodAll] at h
  | [], [], _ :: _, _, _, _, h, _, _, _, _ => by simp [DataW.TrodAll] at h
  | _ :: _, [], _, _, _, _, h, _, _, _, _ => by simp [DataW.TrodAll] at h
  | _ :: _, _ :: _, [], _, _, _, h, _, _, _, _ => by simp [DataW.TrodAll] at h
theorem Spec.calls {P : Program} {k : FuncId} {xs : List Value} {m : Mem} {v : Value} (hf : flat 3 v = true) (h : Spec P k xs m fun u _ => u = v) {ι : Nat → Loc} {w : World} (hL : Lifted ι m w) {ys : List Value} (hy : VRels m.Has ι xs ys) :
    Calls P k ys.toArray w fun e w' => e = .returned v ∧ Below w.heap.size w w' := by
  refine (h ι w ys hy hL.rel).mono ?_
  rintro e w' ⟨u, v', κ, m', rfl, rfl, hv, hr, hs⟩
  exact ⟨by rw [flat_eq 3 _ _ hf hv], hs.os, hs.tape, hs.output, hs.size, fun g hg => hs.block g hg fun b hb => absurd hb (hL.ro b)⟩
theorem closed_sized {H : Type} (P : Program) : Closed (H := H) P reachBytes fun t d => ∀ n ∈ d.weights P t, n ≤ reachBytes where
  str t l h := h _ (by simp [DataW.weights])
  slice t e es sp hu h1 h2 h := by
    simp only [DataW.weights, hu] at h
    have h3 := h _ (List.mem_cons_self)
    refine ⟨⟨Nat.le_trans (Nat.le_mul_of_pos_right _ h1) h3, h3⟩, fun d hd n hn => h n ?_⟩
    refine List.mem_cons_of_mem _ (List.mem_append_left _ ?_)
    clear h h3
    induction es with
    | nil => cases hd
    | cons x r ih =>
      rw [DataW.weightsAll, List.mem_append]
      rcases List.mem_cons.1 hd with rfl | hd
      · exact .inl hn
      · exact .inr (ih hd)
  struct t fs ps hu h i f d hf hd n hn := by
    simp only [DataW.weights, hu] at h
    exact h n (DataW.weights_mem_each (by rw [List.getElem?_map, Array.getElem?_toList, hf]; rfl) hd n hn)
  array t n e ps hu h d hd k hk := by
    simp only [DataW.weights, hu] at h
    refine h k ?_
    clear h
    induction ps with
    | nil => cases hd
    | cons x r ih =>
      rw [DataW.weightsAll, List.mem_append]
      rcases List.mem_cons.1 hd with rfl | hd
      · exact .inl hk
      · exact .inr (ih hd)
theorem calls_of_spec {P : Program} {n : FuncId} {f : Func} (ts : List TypeId) (hp : f.params.toList = ts) (hl : ∀ t ∈ ts, liftable P 20 t = true) (h : ∀ (m : Mem) (vs : List Value), (∀ b, ¬ m.Own b) → ArgsOf P m reachBytes ts vs → Spec P n vs m fun u _ => u = .bool true)
    {H : Type} {enc : TypeId × Value → H} {W : World} {base : Nat} {args : Array Value} {ds : List (DataW H)} {ps : List MemPlace} (hg : GlobK W) (hval : ∀ (j : Nat) t v, f.params[j]? = some t → args[j]? = some v → Value.okWide P W .any base t v)
    (hA : DataW.TrodAll enc P W 0 (fun _ => true) true f.params.toList args.toList ds ps) (hk : ∀ x ∈ DataW.weightsEach P f.params.toList ds, x ≤ reachBytes) : Calls P n args W fun e W' => e = .returned (.bool true) ∧ Below W.heap.size W W' := by
  rw [hp] at hA hk
  obtain ⟨κ, m, vs, g1, g2, g3, g4⟩ := lift_args (closed_sized P) (b2 := base) ts args.toList ds ps hl (fun j t v hj hv => hval j t v (by rw [← hp] at hj; simpa using hj) (by simpa using hv)) hA
    (fun j t d hj hd x hx => hk x (DataW.weights_mem_each hj hd x hx)) _ _ (Lifted.nil W hg)
  exact Spec.calls rfl (h m vs g1.ro g3) g1 g4
end Go.Proofs.YtabffcplbjaklaaGreatDoor.Abs
namespace Go.Proofs.YtabffcplbjaklaaGreatDoor
open Go.ChangeShapes Go.WideShapes Go.ChangeAt Go.RowKit Abs
theorem tab_of_reads {P : Program} {W : World} {name : String} {k : IntKind} {zs : List Int} {g : Nat} {t e : TypeId} {n : Nat}
    (hg : P.globalNamed name = some g) (hty : (P.globals[g]?).map (·.type) = some t) (ht : P.underlying t = some (.array n e)) (he : P.underlying e = some (.int k)) (hce : P.cellsOf e = 1) (hct : P.cellsOf t = n)
    (h : Lib.VarReads P W name (Lib.tabData k zs)) : Lib.TabIs P W name k zs := by
  obtain ⟨g', t', cs, fuel, p, hg', ht', hvar, hd⟩ := h
  obtain rfl := Option.some.inj (hg.symm.trans hg')
  obtain rfl := Option.some.inj (hty.symm.trans ht')
  unfold Lib.TabIs
  rw [hvar, ← Lib.cells_of_tab ht he hce hct hd]
theorem err_of_reads {P : Program} {W : World} {name : String} {d : DataW Unit} {g : Nat} {t : TypeId} {ms : Array (String × TypeId)}
    (hg : P.globalNamed name = some g) (hty : (P.globals[g]?).map (·.type) = some t) (ht : P.underlying t = some (.interface ms)) (h : Lib.VarReads P W name d) :
    ∃ ev, W.cell? ⟨g, 0, none⟩ = some ev ∧ (ev = .nilIface ∨ ∃ te pe, ev = .iface te pe) := by
  obtain ⟨g', t', cs, fuel, p, hg', ht', hvar, hd⟩ := h
  obtain rfl := Option.some.inj (hg.symm.trans hg')
  obtain rfl := Option.some.inj (hty.symm.trans ht')
  have hc := World.var?_cell hg hvar 0
  obtain ⟨l⟩ := cs
  cases fuel with
  | zero => simp [DataW.trod] at hd
  | succ fuel =>
    unfold DataW.trod at hd
    rw [ht] at hd
    rcases l with _ | ⟨v, _ | ⟨b, r⟩⟩
    · simp at hd
    · cases v <;> first | (simp at hd; done) | exact ⟨_, hc.trans rfl, .inl rfl⟩ | exact ⟨_, hc.trans rfl, .inr ⟨_, _, rfl⟩⟩
    · cases v <;> simp at hd
theorem returns_of_walked_card {C : Checked} {os : Os} {n : FuncId} {f : Func} {s : ChangeSpec} {tb : TypeId} {laid : List (String × DataW Unit)} (own : ownKnob C.prog.godebug = none) (started : os.Started)
    (noInit : C.prog.inits.idxOf? n = none) (hf : C.prog.funcs[n]? = some f) (hl : laidOutB C.prog = true)
    (hs : IsLaw s f.params.size) (hr : f.resultTypes = #[tb]) (hu : C.prog.underlying tb = some .bool) (hp : ∀ t ∈ f.params.toList, C.prog.readableRec t = true ∧ t < C.prog.types.size)
    (hpl : (laid.all fun x => x.2.handleName?.isNone) = true)
    {H : Type} {enc : TypeId × Value → H} (F : Stop.Interp)
    (witness : ∃ (w : World) (tape : Tape) (i : Input), w.os = os ∧ (w.forCall tape i).Shaped C.prog ∧ i.vars = [] ∧ Input.okWide C.prog (w.forCall tape i) .any w.heap.size n i ∧
      (OpenSpec.ofChange s).preRow enc C.prog f [] false laid (w.forCall tape i).memory i.args ∧ Assume.holds {} C.prog (lone (Frame.enter C.prog n i.args .normal) [] (w.forCall tape i)))
    (walk : ∀ (W : World) (base : Nat) (args : Array Value) (ds : List (DataW H)) (ps : List MemPlace), laidMet C.prog laid W → W.ShapedOpen C.prog → (∀ (j : Nat) t v, f.params[j]? = some t → args[j]? = some v → Value.okWide C.prog W .any base t v) →
      DataW.TrodAll enc C.prog W 0 (fun _ => true) true f.params.toList args.toList ds ps → (∀ x ∈ DataW.weightsEach C.prog f.params.toList ds, x ≤ reachBytes) →
      Calls C.prog n args W fun e W' => e = .returned (.bool true) ∧ Below W.heap.size W W') :
    ReturnsInHanded {} C os n .any ((OpenSpec.ofChange s).preRow enc C.prog f [] false laid) (((OpenSpec.ofChange s).at F).post enc C.prog f false true false false) := by
  refine returnsInHanded_of_row (C := C) (s := OpenSpec.ofChange s) own started noInit hf witness ?_
  intro W base args ds gs before hval hW _ _ hz hL hS _
  obtain ⟨p, q, hA, hV, rfl, hfz, hnd⟩ := id hW
  have hv : (OpenSpec.ofChange s).vars = [] := hs.1
  have hv0 : s.vars = [] := hs.1
  rw [hv] at hV
  obtain ⟨rfl, rfl⟩ := trodVars_none hV
  rw [List.append_nil] at hz
  have hz' : ∀ x ∈ DataW.weightsEach C.prog f.params.toList ds, x ≤ reachBytes := by
    have e : (OpenSpec.ofChange s).bare.plain.varTypes C.prog = [] := by
      show s.plain.varTypes C.prog = []
      simp [ChangeSpec.plain, hv0, DataSpec.varTypes]
    rw [e, List.append_nil] at hz
    intro x hx
    simpa using List.all_eq_true.1 hz x hx
  rw [MakeChecks.laidMetH_plain _ _ _ hpl] at hL
  refine (walk W base args ds p hL hS hval hA hz').mono fun e W' ⟨he, hb⟩ => ?_
  exact ⟨_, he, law_post hl hs hr hu hp hW hb⟩
end Go.Proofs.YtabffcplbjaklaaGreatDoor
namespace Go.Proofs.YtabffcplbjaklaaGreatDoor.Abs
open Go Go.RowKit
def renL (g : Value → Option Value) : List Value → Option (List Value)
  | [] => some []
  | v :: r => match g v with
    | some u => match renL g r with
      | some l => some (u :: l)
      | none => none
    | none => none
def ren (σ : Nat → Option Nat) : Nat → Value → Option Value
  | _, .bool b => some (.bool b)
  | _, .int k x => some (.int k x)
  | _, .float k x => some (.float k x)
  | _, .complex k x y => some (.complex k x y)
  | _, .string s => some (.string s)
  | _, .pointer none => some (.pointer none)
  | _, .pointer (some ⟨b, o, none⟩) => match σ b with
    | some c => some (.pointer (some ⟨c, o, none⟩))
    | none => none
  | _, .slice none 0 0 => some (.slice none 0 0)
  | _, .slice (some ⟨b, o, none⟩) l c => match σ b with
    | some d => some (.slice (some ⟨d, o, none⟩) l c)
    | none => none
  | _, .nilFunc => some .nilFunc
  | _, .nilIface => some .nilIface
  | _, .map none => some (.map none)
  | _, .map (some b) => match σ b with
    | some c => some (.map (some c))
    | none => none
  | k + 1, .agg cs => match renL (ren σ k) cs.toList with
    | some l => some (.agg l.toArray)
    | none => none
  | k + 1, .tuple cs => match renL (ren σ k) cs.toList with
    | some l => some (.tuple l.toArray)
    | none => none
  | k + 1, .iface t v => match ren σ k v with
    | some u => some (.iface t u)
    | none => none
  | k + 1, .func (.func f) xs ys => match renL (ren σ k) xs.toList with
    | some l => match renL (ren σ k) ys.toList with
      | some r => some (.func (.func f) l.toArray r.toArray)
      | none => none
    | none => none
  | _, _ => none
theorem renL_spec {g : Value → Option Value} : ∀ {xs ys : List Value}, renL g xs = some ys → xs.length = ys.length ∧ ∀ (i : Nat) (x y : Value), xs[i]? = some x → ys[i]? = some y → g x = some y
  | [], ys, h => by cases h; exact ⟨rfl, fun i x y hx => by simp at hx⟩
  | v :: r, ys, h => by
    simp only [renL] at h
    split at h <;> first | (cases h; done) | skip
    rename_i u hu
    split at h <;> first | (cases h; done) | skip
    rename_i l hl
    cases h
    obtain ⟨h1, h2⟩ := renL_spec hl
    refine ⟨by simp [h1], fun i x y hx hy => ?_⟩
    cases i with
    | zero => simp at hx hy; subst hx; subst hy; exact hu
    | succ i => exact h2 i x y (by simpa using hx) (by simpa using hy)
theorem renL_same {g : Value → Option Value} : ∀ {xs : List Value}, (∀ x ∈ xs, g x = some x) → renL g xs = some xs
  | [], _ => rfl
  | v :: r, h => by
    have h1 := h v List.mem_cons_self
    have h2 := renL_same (g := g) (xs := r) fun x hx => h x (List.mem_cons_of_mem _ hx)
    simp only [renL, h1, h2]
theorem ren_flat {σ : Nat → Option Nat} : ∀ (k : Nat) (v : Value), flat k v = true → ren σ k v = some v := by
  intro k
  induction k with
  | zero =>
    intro v h
    cases v <;> first | rfl | skip
    case pointer a => cases a <;> first | rfl | (simp [flat] at h)
    case slice a l c => 
      cases a
      · cases l <;> cases c <;> first | rfl | (simp [flat] at h)
      · simp [flat] at h
    case map r => cases r <;> first | rfl | (simp [flat] at h)
    all_goals simp [flat] at h
  | succ k ih =>
    intro v h
    have arr : ∀ cs : Array Value, cs.toList.all (flat k) = true → renL (ren σ k) cs.toList = some cs.toList := fun cs hc => renL_same fun x hx => ih x (List.all_eq_true.1 hc x hx)
    cases v <;> first | rfl | skip
    case pointer a => cases a <;> first | rfl | (simp [flat] at h)
    case slice a l c => 
      cases a
      · cases l <;> cases c <;> first | rfl | (simp [flat] at h)
      · simp [flat] at h
    case map r => cases r <;> first | rfl | (simp [flat] at h)
    case agg cs => simp only [ren, arr cs (by simpa [flat] using h)]
    case tuple cs => simp only [ren, arr cs (by simpa [flat] using h)]
    case iface t v => simp only [ren, ih v (by simpa [flat] using h)]
    case func fn fs cs =>
      cases fn <;> simp [flat] at h
      simp only [ren, arr fs (by simpa using h.1), arr cs (by simpa using h.2)]
    all_goals simp [flat] at h
theorem renL_flat {σ : Nat → Option Nat} {k : Nat} {xs : List Value} (h : ∀ x ∈ xs, flat k x = true) : renL (ren σ k) xs = some xs := renL_same fun x hx => ren_flat k x (h x hx)
section
variable {n n' : Nat → Prop} {ι κ : Nat → Loc} {σ : Nat → Option Nat}
theorem ren_one : ∀ {k : Nat} {v v' : Value}, ren σ k v = some v' → v'.oneCell' = v.oneCell' := by
  intro k v v' h
  cases k <;> unfold ren at h <;> (split at h <;> first | (cases h; rfl) | (split at h <;> first | (cases h; done) | (cases h; rfl) | (split at h <;> first | (cases h; done) | (cases h; rfl))) | (cases h; done))
theorem ren_rel (hσ : ∀ b c, n b → σ b = some c → n' c ∧ κ c = ι b) : ∀ (k : Nat) (v v' u : Value), ren σ k v = some v' → VRel n ι v u → VRel n' κ v' u := by
  have ptr : ∀ (b o : Nat) (v' u : Value), (match σ b with | some c => some (Value.pointer (some ⟨c, o, none⟩)) | none => none) = some v' → VRel n ι (.pointer (some ⟨b, o, none⟩)) u → VRel n' κ v' u := by
    intro b o v' u h hr
    split at h <;> first | (cases h; done) | skip
    rename_i c hc
    cases h
    cases hr with
    | ptr _ _ hb =>
      obtain ⟨h1, h2⟩ := hσ b c hb hc
      rw [← h2]; exact .ptr c o h1
  have mp : ∀ (b : Nat) (v' u : Value), (match σ b with | some c => some (Value.map (some c)) | none => none) = some v' → VRel n ι (.map (some b)) u → VRel n' κ v' u := by
    intro b v' u h hr
    split at h <;> first | (cases h; done) | skip
    rename_i c hc
    cases h
    cases hr with
    | map _ hb =>
      obtain ⟨h1, h2⟩ := hσ b c hb hc
      rw [← h2]; exact .map c h1
  have slc : ∀ (b o l cp : Nat) (v' u : Value), (match σ b with | some c => some (Value.slice (some ⟨c, o, none⟩) l cp) | none => none) = some v' → VRel n ι (.slice (some ⟨b, o, none⟩) l cp) u → VRel n' κ v' u := by
    intro b o l cp v' u h hr
    split at h <;> first | (cases h; done) | skip
    rename_i c hc
    cases h
    cases hr with
    | slice _ _ _ _ cap' hb hl hcap =>
      obtain ⟨h1, h2⟩ := hσ b c hb hc
      rw [← h2] at hcap ⊢; exact .slice c o l cp cap' h1 hl hcap
    | empty _ _ p hb => exact .empty c o p (hσ b c hb hc).1
  intro k
  induction k with
  | zero =>
    intro v v' u h hr
    unfold ren at h
    split at h <;> first | (cases h; cases hr; constructor; done) | (exact ptr _ _ _ _ h hr) | (exact slc _ _ _ _ _ _ h hr) | (exact mp _ _ _ h hr) | (cases h; done) | skip
    all_goals simp at *
  | succ k ih =>
    intro v v' u h hr
    have arr : ∀ (xs : Array Value) (l : List Value) (ys : Array Value), renL (ren σ k) xs.toList = some l → xs.size = ys.size → (∀ (i : Nat) (x y : Value), xs[i]? = some x → ys[i]? = some y → VRel n ι x y) →
        l.toArray.size = ys.size ∧ ∀ (i : Nat) (x y : Value), l.toArray[i]? = some x → ys[i]? = some y → VRel n' κ x y := by
      intro xs l ys hl hs hh
      obtain ⟨h1, h2⟩ := renL_spec hl
      refine ⟨by simp; simp at h1; omega, fun i x y hx hy => ?_⟩
      have hi : i < xs.size := by rw [hs]; exact (Array.getElem?_eq_some_iff.1 hy).1
      have hx0 := Array.getElem?_eq_getElem hi
      exact ih _ _ _ (h2 i _ x (by simpa using hx0) (by simpa using hx)) (hh i _ y hx0 hy)
    cases v with
    | pointer a =>
      match a, h with
      | none, h => cases h; cases hr; constructor
      | some ⟨b, o, none⟩, h => exact ptr _ _ _ _ h hr
    | slice a l c =>
      match a, l, c, h with
      | none, 0, 0, h => cases h; cases hr; constructor
      | some ⟨b, o, none⟩, l, c, h => exact slc _ _ _ _ _ _ h hr
    | map r =>
      match r, h with
      | none, h => cases h; cases hr; constructor
      | some b, h => exact mp _ _ _ h hr
    | agg cs =>
      simp only [ren] at h
      split at h <;> first | (cases h; done) | skip
      rename_i l hl
      cases h
      cases hr with
      | agg _ ys hs hh => obtain ⟨h1, h2⟩ := arr _ l ys hl hs hh; exact .agg _ _ h1 h2
    | tuple cs =>
      simp only [ren] at h
      split at h <;> first | (cases h; done) | skip
      rename_i l hl
      cases h
      cases hr with
      | tuple _ ys hs hh => obtain ⟨h1, h2⟩ := arr _ l ys hl hs hh; exact .tuple _ _ h1 h2
    | iface t v =>
      simp only [ren] at h
      split at h <;> first | (cases h; done) | skip
      rename_i l hl
      cases h
      cases hr with
      | iface _ _ y hh => exact .iface _ _ _ (ih _ _ _ hl hh)
    | func fn xs ys =>
      cases fn <;> simp only [ren] at h <;> first | (cases h; done) | skip
      split at h <;> first | (cases h; done) | skip
      rename_i l hl
      split at h <;> first | (cases h; done) | skip
      rename_i r hr'
      cases h
      cases hr with
      | func _ _ ys _ ws hs hh hs2 hh2 =>
        obtain ⟨h1, h2⟩ := arr _ l ys hl hs hh
        obtain ⟨h3, h4⟩ := arr _ r ws hr' hs2 hh2
        exact .func _ _ _ _ _ h1 h2 h3 h4
    | _ => first | (cases h; cases hr; constructor; done) | (cases h; done)
theorem ren_inv (hσ : ∀ b c, σ b = some c → n b ∧ κ c = ι b) : ∀ (k : Nat) (v v' u : Value), ren σ k v = some v' → VRel n' κ v' u → VRel n ι v u := by
  have ptr : ∀ (b o : Nat) (v' u : Value), (match σ b with | some c => some (Value.pointer (some ⟨c, o, none⟩)) | none => none) = some v' → VRel n' κ v' u → VRel n ι (.pointer (some ⟨b, o, none⟩)) u := by
    intro b o v' u h hr
    split at h <;> first | (cases h; done) | skip
    rename_i c hc
    cases h
    cases hr with
    | ptr _ _ hb =>
      obtain ⟨h1, h2⟩ := hσ b c hc
      rw [h2]; exact .ptr b o h1
  have mp : ∀ (b : Nat) (v' u : Value), (match σ b with | some c => some (Value.map (some c)) | none => none) = some v' → VRel n' κ v' u → VRel n ι (.map (some b)) u := by
    intro b v' u h hr
    split at h <;> first | (cases h; done) | skip
    rename_i c hc
    cases h
    cases hr with
    | map _ hb =>
      obtain ⟨h1, h2⟩ := hσ b c hc
      rw [h2]; exact .map b h1
  have slc : ∀ (b o l cp : Nat) (v' u : Value), (match σ b with | some c => some (Value.slice (some ⟨c, o, none⟩) l cp) | none => none) = some v' → VRel n' κ v' u → VRel n ι (.slice (some ⟨b, o, none⟩) l cp) u := by
    intro b o l cp v' u h hr
    split at h <;> first | (cases h; done) | skip
    rename_i c hc
    cases h
    obtain ⟨h1, h2⟩ := hσ b c hc
    cases hr with
    | slice _ _ _ _ cap' hb hl hcap => rw [h2] at hcap ⊢; exact .slice b o l cp cap' h1 hl hcap
    | empty _ _ p hb => exact .empty b o p h1
  intro k
  induction k with
  | zero =>
    intro v v' u h hr
    unfold ren at h
    split at h <;> first | (cases h; cases hr; constructor; done) | (exact ptr _ _ _ _ h hr) | (exact slc _ _ _ _ _ _ h hr) | (exact mp _ _ _ h hr) | (cases h; done) | skip
    all_goals simp at *
  | succ k ih =>
    intro v v' u h hr
    have arr : ∀ (xs : Array Value) (l : List Value) (ys : Array Value), renL (ren σ k) xs.toList = some l → l.toArray.size = ys.size → (∀ (i : Nat) (x y : Value), l.toArray[i]? = some x → ys[i]? = some y → VRel n' κ x y) →
        xs.size = ys.size ∧ ∀ (i : Nat) (x y : Value), xs[i]? = some x → ys[i]? = some y → VRel n ι x y := by
      intro xs l ys hl hs hh
      obtain ⟨h1, h2⟩ := renL_spec hl
      refine ⟨by simp at hs h1; omega, fun i x y hx hy => ?_⟩
      have hi : i < l.length := by simp at hs; rw [hs]; exact (Array.getElem?_eq_some_iff.1 hy).1
      have hx0 := List.getElem?_eq_getElem hi
      exact ih _ _ _ (h2 i x _ (by simpa using hx) hx0) (hh i _ y (by simpa using hx0) hy)
    cases v with
    | pointer a =>
      match a, h with
      | none, h => cases h; cases hr; constructor
      | some ⟨b, o, none⟩, h => exact ptr _ _ _ _ h hr
    | slice a l c =>
      match a, l, c, h with
      | none, 0, 0, h => cases h; cases hr; constructor
      | some ⟨b, o, none⟩, l, c, h => exact slc _ _ _ _ _ _ h hr
    | map r =>
      match r, h with
      | none, h => cases h; cases hr; constructor
      | some b, h => exact mp _ _ _ h hr
    | agg cs =>
      simp only [ren] at h
      split at h <;> first | (cases h; done) | skip
      rename_i l hl
      cases h
      cases hr with
      | agg _ ys hs hh => obtain ⟨h1, h2⟩ := arr _ l ys hl hs hh; exact .agg _ _ h1 h2
    | tuple cs =>
      simp only [ren] at h
      split at h <;> first | (cases h; done) | skip
      rename_i l hl
      cases h
      cases hr with
      | tuple _ ys hs hh => obtain ⟨h1, h2⟩ := arr _ l ys hl hs hh; exact .tuple _ _ h1 h2
    | iface t v =>
      simp only [ren] at h
      split at h <;> first | (cases h; done) | skip
      rename_i l hl
      cases h
      cases hr with
      | iface _ _ y hh => exact .iface _ _ _ (ih _ _ _ hl hh)
    | func fn xs ys =>
      cases fn <;> simp only [ren] at h <;> first | (cases h; done) | skip
      split at h <;> first | (cases h; done) | skip
      rename_i l hl
      split at h <;> first | (cases h; done) | skip
      rename_i r hr'
      cases h
      cases hr with
      | func _ _ ys _ ws hs hh hs2 hh2 =>
        obtain ⟨h1, h2⟩ := arr _ l ys hl hs hh
        obtain ⟨h3, h4⟩ := arr _ r ws hr' hs2 hh2
        exact .func _ _ _ _ _ h1 h2 h3 h4
    | _ => first | (cases h; cases hr; constructor; done) | (cases h; done)
theorem renL_inv (hσ : ∀ b c, σ b = some c → n b ∧ κ c = ι b) {k : Nat} {xs ys us : List Value} (h : renL (ren σ k) xs = some ys) (hr : VRels n' κ ys us) : VRels n ι xs us := by
  obtain ⟨h1, h2⟩ := renL_spec h
  refine ⟨by rw [h1]; exact hr.1, fun i x u hx hu => ?_⟩
  have hi : i < ys.length := by rw [← h1]; exact (List.getElem?_eq_some_iff.1 hx).1
  have hy := List.getElem?_eq_getElem hi
  exact ren_inv hσ k _ _ _ (h2 i x _ hx hy) (hr.2 i _ u hy hu)
theorem some_rel {x y : Value} (h : VRel n ι x y) : ∃ x', VRel n' κ x' y := by
  have arr : ∀ (xs ys : Array Value), xs.size = ys.size → (∀ (i : Nat) (x y : Value), xs[i]? = some x → ys[i]? = some y → ∃ x', VRel n' κ x' y) →
      ∃ zs : Array Value, zs.size = ys.size ∧ ∀ (i : Nat) (x y : Value), zs[i]? = some x → ys[i]? = some y → VRel n' κ x y := by
    intro xs ys hs hh
    have : ∀ i : Fin ys.size, ∃ x', VRel n' κ x' ys[i] := fun i => hh i _ _ (Array.getElem?_eq_getElem (by omega)) (Array.getElem?_eq_getElem i.2)
    refine ⟨Array.ofFn fun i => (this i).choose, by simp, fun i x y hx hy => ?_⟩
    have hi := (Array.getElem?_eq_some_iff.1 hy).1
    rw [Array.getElem?_eq_getElem (by simpa using hi), Array.getElem_ofFn] at hx
    rw [Array.getElem?_eq_getElem hi] at hy
    cases hx; cases hy
    exact (this ⟨i, hi⟩).choose_spec
  induction h with
  | ptr b o h => exact ⟨_, .junk _ rfl⟩
  | slice b o len cap cap' h hl hc => exact ⟨_, .junk _ rfl⟩
  | empty b o p h => exact ⟨_, .junk _ rfl⟩
  | map b h => exact ⟨_, .junk _ rfl⟩
  | junk y h => exact ⟨_, .junk y h⟩
  | agg xs ys hs _ ih => obtain ⟨zs, h1, h2⟩ := arr xs ys hs ih; exact ⟨_, .agg zs ys h1 h2⟩
  | tuple xs ys hs _ ih => obtain ⟨zs, h1, h2⟩ := arr xs ys hs ih; exact ⟨_, .tuple zs ys h1 h2⟩
  | iface t x y _ ih => obtain ⟨z, h⟩ := ih; exact ⟨_, .iface t z y h⟩
  | func f xs ys zs ws hs _ hs2 _ ih ih2 =>
    obtain ⟨us, h1, h2⟩ := arr xs ys hs ih
    obtain ⟨vs, h3, h4⟩ := arr zs ws hs2 ih2
    exact ⟨_, .func f us ys vs ws h1 h2 h3 h4⟩
  | bool | int | float | complex | string | nilPtr | nilSlice | nilFunc | nilIface | nilMap => exact ⟨_, by constructor⟩
end
end Go.Proofs.YtabffcplbjaklaaGreatDoor.Abs
namespace Go.Proofs.YtabffcplbjaklaaGreatDoor.Abs
open Go Go.RowKit
def pos : List Nat → Nat → Option Nat
  | [], _ => none
  | x :: r, b => if b = x then some 0 else match pos r b with
    | some c => some (c + 1)
    | none => none
theorem pos_spec : ∀ {ks : List Nat} {b c : Nat}, pos ks b = some c → ks[c]? = some b
  | [], _, _, h => by cases h
  | x :: r, b, c, h => by
    simp only [pos] at h
    split at h
    · rename_i e; cases h; rw [e]; rfl
    · split at h <;> first | (cases h; done) | skip
      rename_i d hd
      cases h
      exact pos_spec (ks := r) hd
def nodupB : List Nat → Bool
  | [] => true
  | x :: r => r.all (fun y => !Nat.beq x y) && nodupB r
theorem nodupB_spec : ∀ {ks : List Nat}, nodupB ks = true → ∀ (i j b : Nat), ks[i]? = some b → ks[j]? = some b → i = j
  | [], _, i, j, b, h, _ => by simp at h
  | x :: r, hn, i, j, b, hi, hj => by
    simp only [nodupB, Bool.and_eq_true, List.all_eq_true, Bool.not_eq_true'] at hn
    have key : ∀ l : Nat, r[l]? = some x → False := fun l hl => by
      have := hn.1 x (List.mem_of_getElem? hl)
      rw [Nat.beq_refl] at this
      cases this
    cases i with
    | zero =>
      simp at hi; subst hi
      cases j with
      | zero => rfl
      | succ j => exact (key j (by simpa using hj)).elim
    | succ i =>
      cases j with
      | zero => simp at hj; subst hj; exact (key i (by simpa using hi)).elim
      | succ j => rw [nodupB_spec hn.2 i j b (by simpa using hi) (by simpa using hj)]
def fixB : Nat → Nat → List Nat → Bool
  | _, 0, _ => true
  | i, k + 1, x :: r => Nat.beq i x && fixB (i + 1) k r
  | _, _ + 1, [] => false
theorem fixB_spec : ∀ {k i : Nat} {ks : List Nat}, fixB i k ks = true → ∀ b, b < k → ks[b]? = some (i + b)
  | 0, _, _, _, b, h => by omega
  | k + 1, i, [], h, _, _ => by cases h
  | k + 1, i, x :: r, h, b, hb => by
    simp only [fixB, Bool.and_eq_true] at h
    cases b with
    | zero => rw [Nat.eq_of_beq_eq_true h.1]; rfl
    | succ b =>
      have := fixB_spec h.2 b (by omega)
      simp only [List.getElem?_cons_succ, this]
      congr 1; omega
def gcOk (k : Nat) (ks : List Nat) : Bool := fixB 0 k ks && nodupB ks
def nth (l : List (Option (Option Blk))) (b : Nat) : Option (Option Blk) := match l[b]? with
  | some o => o
  | none => none
def renB (σ : Nat → Option Nat) : Option (Option Blk) → Option (Option (Option Blk))
  | some (some (.cells ro s cs)) => match renL (ren σ 4) cs with
    | some l => some (some (some (.cells ro s l)))
    | none => none
  | some (some _) => none
  | some none => some (some none)
  | none => none
def renMs (σ : Nat → Option Nat) (l : List (Option (Option Blk))) : List Nat → Option (List (Option (Option Blk)))
  | [] => some []
  | b :: r => match renB σ (nth l b) with
    | some x => match renMs σ l r with
      | some q => some (x :: q)
      | none => none
    | none => none
def renF (σ : Nat → Option Nat) (f : AL) : List Nat → Option AL
  | [] => some []
  | t :: r => match AL.get f t with
    | some v => match ren σ 4 v with
      | some u => match renF σ f r with
        | some q => some ((t, u) :: q)
        | none => none
      | none => none
    | none => none
theorem renMs_get {σ : Nat → Option Nat} {l : List (Option (Option Blk))} : ∀ {ks : List Nat} {q : List (Option (Option Blk))}, renMs σ l ks = some q → q.length = ks.length ∧ ∀ (c b : Nat) (x : Option (Option Blk)), ks[c]? = some b → q[c]? = some x → renB σ (nth l b) = some x
  | [], q, h => by cases h; exact ⟨rfl, fun c b x h => by simp at h⟩
  | b :: r, q, h => by
    simp only [renMs] at h
    split at h <;> first | (cases h; done) | skip
    rename_i x hx
    split at h <;> first | (cases h; done) | skip
    rename_i q' hq
    cases h
    obtain ⟨h1, h2⟩ := renMs_get hq
    refine ⟨by simp [h1], fun c b' y hc hy => ?_⟩
    cases c with
    | zero => simp at hc hy; subst hc; subst hy; exact hx
    | succ c => exact h2 c b' y (by simpa using hc) (by simpa using hy)
theorem renF_get {σ : Nat → Option Nat} {f : AL} : ∀ {ts : List Nat} {q : AL}, renF σ f ts = some q → ∀ (t : Nat) (v : Value), AL.get q t = some v → ∃ u, AL.get f t = some u ∧ ren σ 4 u = some v
  | [], q, h, t, v, ht => by cases h; cases ht
  | s :: r, q, h, t, v, ht => by
    simp only [renF] at h
    split at h <;> first | (cases h; done) | skip
    rename_i u hu
    split at h <;> first | (cases h; done) | skip
    rename_i u' hu'
    split at h <;> first | (cases h; done) | skip
    rename_i q' hq
    cases h
    simp only [AL.get] at ht
    split at ht
    · rename_i e; subst e; cases ht; exact ⟨u, hu, hu'⟩
    · exact renF_get hq t v ht
theorem nth_get {m : Mem} {b : Nat} {x : Blk} (h : nth m.blks b = some (some x)) : m.get b = some x := by
  unfold nth at h
  split at h <;> first | (cases h; done) | skip
  rename_i o ho
  subst h
  unfold Mem.get
  rw [ho]
theorem renB_some {σ : Nat → Option Nat} {o : Option (Option Blk)} {x : Option (Option Blk)} (h : renB σ o = some x) : (o = some none ∧ x = some none) ∨ ∃ ro s cs l, o = some (some (.cells ro s cs)) ∧ x = some (some (.cells ro s l)) ∧ renL (ren σ 4) cs = some l := by
  unfold renB at h
  split at h <;> first | (cases h; done) | skip
  · split at h <;> first | (cases h; done) | skip
    rename_i l hl
    cases h
    exact .inr ⟨_, _, _, l, rfl, rfl, hl⟩
  · cases h; exact .inl ⟨rfl, rfl⟩
section
variable {P : Program} {n k : Nat} {f : AL} {m : Mem}
def AK (P : Program) (k : Nat) (c : Code) (Q : Exit → List Value → Mem → Prop) (a : List Value) (m : Mem) : Prop :=
  ∀ (ι₀ : Nat → Loc) (m₀ : Mem) (w₀ : World) (ι : Nat → Loc) (act : Act) (w : World), m₀.size ≤ k → Step ι₀ m₀ w₀ ι m w → ARel m.Has ι a act → Rel ι m w → c.wp P (Post ι₀ m₀ w₀ Q) act w
def CW (P : Program) (n k : Nat) [c : Box Code] [Q : Box (Exit → AL → Mem → Prop)] (f : AL) (m : Mem) : Prop :=
  ∀ a, Knows n f a → AK P k c.k (fun e a' m' => ∃ f', Knows n f' a' ∧ Q.k e f' m') a m
variable {Q : Exit → AL → Mem → Prop}
def cThen [next : Box (AL → Mem → Prop)] [Q : Box (Exit → AL → Mem → Prop)] : Exit → AL → Mem → Prop
  | .normal, f, m => next.k f m
  | e, f, m => Q.k e f m
def cBlock (i : Nat) [Q : Box (Exit → AL → Mem → Prop)] : Exit → AL → Mem → Prop
  | .exit j, f, m => if j = i then Q.k .normal f m else Q.k (.exit j) f m
  | e, f, m => Q.k e f m
theorem CW.of_SW {c : Code} (h : SW P n c Q f m) : @CW P n k ⟨c⟩ ⟨Q⟩ f m := fun a ha ι₀ m₀ w₀ ι act w _ => h a ha ι₀ m₀ w₀ ι act w
theorem CW_skip (h : Q .normal f m) : @CW P n k ⟨.skip⟩ ⟨Q⟩ f m := .of_SW (SW_skip h)
theorem CW_exit {i : Nat} (h : Q (.exit i) f m) : @CW P n k ⟨.exit i⟩ ⟨Q⟩ f m := .of_SW (SW_exit h)
theorem CW_ret (h : Q .ret f m) : @CW P n k ⟨.ret⟩ ⟨Q⟩ f m := .of_SW (SW_ret h)
theorem CW_region {id : Nat} {ops : Array Oper} (h : @sOpsB P n ops.toList ⟨Q .normal⟩ ops.toList f m) : @CW P n k ⟨.region id ops false⟩ ⟨Q⟩ f m := .of_SW (SW_region h)
theorem CW_draw {id : Nat} {ops : Array Oper} (hmix : P.follows .mixedOrders = true) (q : Nat) (hq : drawOK ops q = true) (hqs : Nat.ble q ops.size = true)
    (h : @sHeadB P n ops.toList m ⟨fun f' M => @sOpsB P n ops.toList ⟨Q .normal⟩ (ops.toList.drop q) f' M⟩ (ops.toList.take q) false f m) : @CW P n k ⟨.region id ops true⟩ ⟨Q⟩ f m := .of_SW (SW_draw hmix q hq hqs h)
def sQB (P : Program) (n : Nat) (all : List Oper) (m : Mem) (J : List Nat) [K : Box (AL → Mem → Prop)] : List Oper → AL → Mem → Prop
  | [], _, _ => False
  | oq :: r, f', M => @withV _ (sMem P (AL.look f') M oq.op) ⟨fun p => idleOK P all f' m p.2 J ∧ @sPut n oq.dst p.1 f' ⟨fun f'' => @sOpsB P n all K r f'' p.2⟩⟩
theorem CW_draw4 {id : Nat} {ops : Array Oper} (hmix : P.follows .mixedOrders = true) (q : Nat) (J : List Nat) (hq : drawOK4 P ops q J = true)
    (h : @sHeadB P n ops.toList m ⟨fun f' M => @sQB P n ops.toList m J ⟨Q .normal⟩ (ops.toList.drop q) f' M⟩ (ops.toList.take q) false f m) : @CW P n k ⟨.region id ops true⟩ ⟨Q⟩ f m := by
  have hqs : q < ops.toList.length := by
    have := hq
    simp only [drawOK4, Bool.and_eq_true] at this
    have := Nat.le_of_ble_eq_true this.1.1.2
    rw [Array.length_toList]
    omega
  rw [List.drop_eq_getElem_cons hqs] at h
  exact .of_SW (SW_draw4 hmix q J hq (oq := ops.toList[q]) (by rw [← Array.getElem?_toList]; exact List.getElem?_eq_getElem hqs) h)
def sQB7 (P : Program) (n : Nat) (all : List Oper) (m : Mem) (J : List Nat) [K : Box (AL → Mem → Prop)] : List Oper → AL → Mem → Prop
  | [], _, _ => False
  | oq :: r, f', M => @withV _ (sMem P (AL.look f') M oq.op) ⟨fun p => (M.size = m.size ∧ idleOK7 P all f' p.2 J) ∧ @sPut n oq.dst p.1 f' ⟨fun f'' => @sOpsB P n all K r f'' p.2⟩⟩
theorem CW_draw7 {id : Nat} {ops : Array Oper} (hmix : P.follows .mixedOrders = true) (q : Nat) (J : List Nat) (hq : drawOK7 P ops q J = true)
    (h : @sHeadB P n ops.toList m ⟨fun f' M => @sQB7 P n ops.toList m J ⟨Q .normal⟩ (ops.toList.drop q) f' M⟩ (ops.toList.take q) false f m) : @CW P n k ⟨.region id ops true⟩ ⟨Q⟩ f m := by
  have hqs : q < ops.toList.length := by
    have := hq
    simp only [drawOK7, Bool.and_eq_true] at this
    have := Nat.le_of_ble_eq_true this.1.1.2
    rw [Array.length_toList]
    omega
  rw [List.drop_eq_getElem_cons hqs] at h
  exact .of_SW (SW_draw7 hmix q J hq (oq := ops.toList[q]) (by rw [← Array.getElem?_toList]; exact List.getElem?_eq_getElem hqs) h)
theorem CW.mono {c : Code} {Q' : Exit → AL → Mem → Prop} (h : @CW P n k ⟨c⟩ ⟨Q⟩ f m) (hq : ∀ e f m, Q e f m → Q' e f m) : @CW P n k ⟨c⟩ ⟨Q'⟩ f m :=
  fun a ha ι₀ m₀ w₀ ι act w h0 hs hA hr => wp_mono (h a ha ι₀ m₀ w₀ ι act w h0 hs hA hr) fun _ _ _ ⟨κ, a', m', ⟨f', h1, h2⟩, h3⟩ => ⟨κ, a', m', ⟨f', h1, hq _ _ _ h2⟩, h3⟩
theorem CW_seq {x y : Code} (h : @CW P n k ⟨x⟩ ⟨@cThen ⟨@CW P n k ⟨y⟩ ⟨Q⟩⟩ ⟨Q⟩⟩ f m) : @CW P n k ⟨.seq x y⟩ ⟨Q⟩ f m := by
  intro a ha ι₀ m₀ w₀ ι act w h0 hs hA hr
  refine wp_seq (wp_mono (h a ha ι₀ m₀ w₀ ι act w h0 hs hA hr) ?_)
  rintro e act' w' ⟨κ, a', m', ⟨f', h1, h2⟩, h3, h4, h5⟩
  cases e with
  | normal => exact h2 a' h1 ι₀ m₀ w₀ κ act' w' h0 h5 h3 h4
  | _ => exact ⟨κ, a', m', ⟨f', h1, h2⟩, h3, h4, h5⟩
theorem CW_cond {c : Operand} {x y : Code} (t : Bool) (hc : AL.look f c = some (.bool t)) (ht : t = true → @CW P n k ⟨x⟩ ⟨Q⟩ f m) (hf : t = false → @CW P n k ⟨y⟩ ⟨Q⟩ f m) : @CW P n k ⟨.cond c x y⟩ ⟨Q⟩ f m := by
  intro a ha ι₀ m₀ w₀ ι act w h0 hs hA hr
  have he := aEval_rel hA (ha.look c _ hc)
  generalize hv : act.eval c = v at he
  cases he
  exact wp_cond_split hv (fun h => ht h a ha ι₀ m₀ w₀ ι act w h0 hs hA hr) (fun h => hf h a ha ι₀ m₀ w₀ ι act w h0 hs hA hr)
theorem CW_block {i : Nat} {c : Code} (h : @CW P n k ⟨c⟩ ⟨@cBlock i ⟨Q⟩⟩ f m) : @CW P n k ⟨.block i c⟩ ⟨Q⟩ f m := by
  intro a ha ι₀ m₀ w₀ ι act w h0 hs hA hr
  refine wp_block (wp_mono (h a ha ι₀ m₀ w₀ ι act w h0 hs hA hr) ?_)
  rintro e act' w' ⟨κ, a', m', ⟨f', h1, h2⟩, h3, h4, h5⟩
  cases e with
  | exit j =>
    simp only [cBlock] at h2
    simp only [Exit.inBlock]
    split
    · rename_i e; rw [if_pos e] at h2; exact ⟨κ, a', m', ⟨f', h1, h2⟩, h3, h4, h5⟩
    · rename_i e; rw [if_neg e] at h2; exact ⟨κ, a', m', ⟨f', h1, h2⟩, h3, h4, h5⟩
  | _ => exact ⟨κ, a', m', ⟨f', h1, h2⟩, h3, h4, h5⟩
end
end Go.Proofs.YtabffcplbjaklaaGreatDoor.Abs
namespace Go.Proofs.YtabffcplbjaklaaGreatDoor.Abs
open Go Go.RowKit
def upTo (at_ : List Nat) (n : Nat) (b : Nat) : Option Nat := match at_[b]? with
  | some c => some c
  | none => some (n + (b - at_.length))
def mergeOld (τ : Nat → Option Nat) : List (Option (Option Blk)) → List Nat → List (Option (Option Blk)) → List (Option (Option Blk)) → Option (List (Option (Option Blk)))
  | l, [], [], _ => some l
  | l, a :: r, some (some (.cells false _ _)) :: os, x :: ns => match renB τ x with
    | some y => mergeOld τ (l.set a y) r os ns
    | none => none
  | l, _ :: r, some (some (.cells true _ _)) :: os, _ :: ns => mergeOld τ l r os ns
  | l, _ :: r, some none :: os, _ :: ns => mergeOld τ l r os ns
  | _, _, _, _ => none
def mergeNew (τ : Nat → Option Nat) : List (Option (Option Blk)) → Option (List (Option (Option Blk)))
  | [] => some []
  | some (some (.cells false s cs)) :: r => match renL (ren τ 4) cs with
    | some l => match mergeNew τ r with
      | some q => some (some (some (.cells false s l)) :: q)
      | none => none
    | none => none
  | some none :: r => match mergeNew τ r with
    | some q => some (some none :: q)
    | none => none
  | _ => none
def merge (m : Mem) (at_ : List Nat) (m₀ m₁ : Mem) : Option Mem := match mergeOld (upTo at_ m.size) m.blks at_ m₀.blks m₁.blks with
  | some l => match mergeNew (upTo at_ m.size) (m₁.blks.drop m₀.size) with
    | some r => some ⟨l ++ r⟩
    | none => none
  | none => none
theorem mergeOld_spec {τ : Nat → Option Nat} : ∀ {at_ : List Nat} {os ns l q : List (Option (Option Blk))}, mergeOld τ l at_ os ns = some q → (∀ (i j b : Nat), at_[i]? = some b → at_[j]? = some b → (∃ s cs, os[i]? = some (some (some (Blk.cells false s cs)))) → i = j) → (∀ (i b : Nat), at_[i]? = some b → b < l.length) →
    q.length = l.length ∧ at_.length = os.length ∧ (∀ (i b s : Nat) (cs : List Value), at_[i]? = some b → os[i]? = some (some (some (Blk.cells false s cs))) → ∃ x, renB τ (nth ns i) = some x ∧ q[b]? = some x) ∧
      (∀ b : Nat, (∀ (i s : Nat) (cs : List Value), at_[i]? = some b → os[i]? ≠ some (some (some (Blk.cells false s cs)))) → q[b]? = l[b]?) ∧ (∀ i : Nat, i < os.length → ∃ o, os[i]? = some (some o))
  | [], os, ns, l, q, h, _, _ => by
    cases os with
    | nil => cases h; exact ⟨rfl, rfl, fun i b s cs h => by simp at h, fun b _ => rfl, fun i hi => by simp at hi⟩
    | cons o os => simp [mergeOld] at h
  | a :: r, os, ns, l, q, h, hinj, hlt => by
    match os, ns, h with
    | some (some (.cells false s0 cs0)) :: os, x :: ns, h =>
      simp only [mergeOld] at h
      split at h <;> first | (cases h; done) | skip
      rename_i y hy
      obtain ⟨h1, h2, h3, h4, h5⟩ := mergeOld_spec h (fun i j b hi hj ho => by
        have := hinj (i + 1) (j + 1) b (by simpa using hi) (by simpa using hj) (by simpa using ho)
        omega) (fun i b hi => by rw [List.length_set]; exact hlt (i + 1) b (by simpa using hi))
      rw [List.length_set] at h1
      refine ⟨h1, by simp [h2], fun i b s cs hi ho => ?_, fun b hb => ?_, fun i hi => ?_⟩
      · cases i with
        | zero =>
          simp at hi; subst hi
          refine ⟨y, by simpa [nth] using hy, ?_⟩
          rw [h4 a fun i s cs hi ho => ?_]
          · rw [List.getElem?_set_self (hlt 0 a rfl)]
          · have := hinj 0 (i + 1) a rfl (by simpa using hi) ⟨_, _, rfl⟩
            omega
        | succ i => 
          obtain ⟨x', k1, k2⟩ := h3 i b s cs (by simpa using hi) (by simpa using ho)
          exact ⟨x', by simpa [nth] using k1, k2⟩
      · have hne : a ≠ b := fun e => by subst e; exact hb 0 _ _ rfl rfl
        rw [h4 b fun i s cs hi ho => hb (i + 1) s cs (by simpa using hi) (by simpa using ho), List.getElem?_set_ne hne]
      · cases i with
        | zero => exact ⟨_, rfl⟩
        | succ i => obtain ⟨o, ho⟩ := h5 i (by simp at hi; omega); exact ⟨o, by simpa using ho⟩
    | some (some (.cells true s0 cs0)) :: os, x :: ns, h =>
      simp only [mergeOld] at h
      obtain ⟨h1, h2, h3, h4, h5⟩ := mergeOld_spec h (fun i j b hi hj ho => by
        have := hinj (i + 1) (j + 1) b (by simpa using hi) (by simpa using hj) (by simpa using ho)
        omega) (fun i b hi => hlt (i + 1) b (by simpa using hi))
      refine ⟨h1, by simp [h2], fun i b s cs hi ho => ?_, fun b hb => ?_, fun i hi => ?_⟩
      · cases i with
        | zero => simp at ho
        | succ i => 
          obtain ⟨x', k1, k2⟩ := h3 i b s cs (by simpa using hi) (by simpa using ho)
          exact ⟨x', by simpa [nth] using k1, k2⟩
      · exact h4 b fun i s cs hi ho => hb (i + 1) s cs (by simpa using hi) (by simpa using ho)
      · cases i with
        | zero => exact ⟨_, rfl⟩
        | succ i => obtain ⟨o, ho⟩ := h5 i (by simp at hi; omega); exact ⟨o, by simpa using ho⟩
    | some none :: os, x :: ns, h =>
      simp only [mergeOld] at h
      obtain ⟨h1, h2, h3, h4, h5⟩ := mergeOld_spec h (fun i j b hi hj ho => by
        have := hinj (i + 1) (j + 1) b (by simpa using hi) (by simpa using hj) (by simpa using ho)
        omega) (fun i b hi => hlt (i + 1) b (by simpa using hi))
      refine ⟨h1, by simp [h2], fun i b s cs hi ho => ?_, fun b hb => ?_, fun i hi => ?_⟩
      · cases i with
        | zero => simp at ho
        | succ i => 
          obtain ⟨x', k1, k2⟩ := h3 i b s cs (by simpa using hi) (by simpa using ho)
          exact ⟨x', by simpa [nth] using k1, k2⟩
      · exact h4 b fun i s cs hi ho => hb (i + 1) s cs (by simpa using hi) (by simpa using ho)
      · cases i with
        | zero => exact ⟨_, rfl⟩
        | succ i => obtain ⟨o, ho⟩ := h5 i (by simp at hi; omega); exact ⟨o, by simpa using ho⟩
theorem mergeNew_spec {τ : Nat → Option Nat} : ∀ {ns q : List (Option (Option Blk))}, mergeNew τ ns = some q → q.length = ns.length ∧ ∀ (i : Nat) (x : Option (Option Blk)), q[i]? = some x → renB τ (nth ns i) = some x ∧ ∀ ro s cs, x = some (some (.cells ro s cs)) → ro = false
  | [], q, h => by cases h; exact ⟨rfl, fun i x h => by simp at h⟩
  | some (some (.cells false s cs)) :: r, q, h => by
    simp only [mergeNew] at h
    split at h <;> first | (cases h; done) | skip
    rename_i l hl
    split at h <;> first | (cases h; done) | skip
    rename_i q' hq
    cases h
    obtain ⟨h1, h2⟩ := mergeNew_spec hq
    refine ⟨by simp [h1], fun i x hx => ?_⟩
    cases i with
    | zero => simp at hx; subst hx; exact ⟨by simp [nth, renB, hl], fun ro s cs e => by cases e; rfl⟩
    | succ i =>
      obtain ⟨k1, k2⟩ := h2 i x (by simpa using hx)
      exact ⟨by simpa [nth] using k1, k2⟩
  | some none :: r, q, h => by
    simp only [mergeNew] at h
    split at h <;> first | (cases h; done) | skip
    rename_i q' hq
    cases h
    obtain ⟨h1, h2⟩ := mergeNew_spec hq
    refine ⟨by simp [h1], fun i x hx => ?_⟩
    cases i with
    | zero => simp at hx; subst hx; exact ⟨by simp [nth, renB], fun ro s cs e => by cases e⟩
    | succ i =>
      obtain ⟨k1, k2⟩ := h2 i x (by simpa using hx)
      exact ⟨by simpa [nth] using k1, k2⟩
  | some (some (.cells true s cs)) :: r, q, h => by simp [mergeNew] at h
  | none :: r, q, h => by simp [mergeNew] at h
def Placed (σ : Nat → Option Nat) (m : Mem) : List Nat → List (Option (Option Blk)) → Prop
  | [], [] => True
  | a :: r, some (some (.cells ro s cs)) :: os => (∃ ro' cs', m.get a = some (.cells ro' s cs') ∧ renL (ren σ 4) cs = some cs' ∧ (ro = false → ro' = false)) ∧ Placed σ m r os
  | a :: r, some none :: os => m.Has a ∧ Placed σ m r os
  | _, _ => False
theorem Placed.spec {σ : Nat → Option Nat} {m : Mem} : ∀ {at_ : List Nat} {os : List (Option (Option Blk))}, Placed σ m at_ os → at_.length = os.length ∧ (∀ (i a : Nat), at_[i]? = some a → m.Has a) ∧
    ∀ (i a : Nat) (ro : Bool) (s : Nat) (cs : List Value), at_[i]? = some a → os[i]? = some (some (some (Blk.cells ro s cs))) → ∃ ro' cs', m.get a = some (.cells ro' s cs') ∧ renL (ren σ 4) cs = some cs' ∧ (ro = false → ro' = false)
  | [], os, h => by
    cases os with
    | nil => exact ⟨rfl, fun i a h => by simp at h, fun i a ro s cs h => by simp at h⟩
    | cons o os => exact h.elim
  | a :: r, os, h => by
    match os, h with
    | some (some (.cells ro s cs)) :: os, h =>
      obtain ⟨h0, h⟩ := h
      obtain ⟨h1, h2, h3⟩ := Placed.spec h
      refine ⟨by simp [h1], fun i b hi => ?_, fun i b ro' s' cs' hi ho => ?_⟩
      · cases i with
        | zero => simp at hi; subst hi; obtain ⟨_, _, hg, _⟩ := h0; exact Mem.get_has hg
        | succ i => exact h2 i b (by simpa using hi)
      · cases i with
        | zero => simp at hi ho; subst hi; obtain ⟨rfl, rfl, rfl⟩ := ho; exact h0
        | succ i => exact h3 i b ro' s' cs' (by simpa using hi) (by simpa using ho)
    | some none :: os, h =>
      obtain ⟨h0, h⟩ := h
      obtain ⟨h1, h2, h3⟩ := Placed.spec h
      refine ⟨by simp [h1], fun i b hi => ?_, fun i b ro' s' cs' hi ho => ?_⟩
      · cases i with
        | zero => simp at hi; subst hi; exact h0
        | succ i => exact h2 i b (by simpa using hi)
      · cases i with
        | zero => simp at ho
        | succ i => exact h3 i b ro' s' cs' (by simpa using hi) (by simpa using ho)
theorem placed_some {σ : Nat → Option Nat} {m : Mem} : ∀ {at_ : List Nat} {os : List (Option (Option Blk))}, Placed σ m at_ os → ∀ i : Nat, i < os.length → ∃ o, os[i]? = some (some o)
  | [], os, h, i, hi => by
    cases os with
    | nil => simp at hi
    | cons o os => exact h.elim
  | a :: r, os, h, i, hi => by
    match os, h with
    | some (some (.cells ro s cs)) :: os, h =>
      cases i with
      | zero => exact ⟨_, rfl⟩
      | succ i => obtain ⟨o, ho⟩ := placed_some h.2 i (by simp at hi; omega); exact ⟨o, by simpa using ho⟩
    | some none :: os, h =>
      cases i with
      | zero => exact ⟨_, rfl⟩
      | succ i => obtain ⟨o, ho⟩ := placed_some h.2 i (by simp at hi; omega); exact ⟨o, by simpa using ho⟩
theorem placed_row {σ : Nat → Option Nat} {m : Mem} : ∀ {at_ : List Nat} {os : List (Option (Option Blk))}, Placed σ m at_ os → ∀ (i : Nat) (x : Blk), os[i]? = some (some (some x)) → ∃ ro s cs, x = .cells ro s cs
  | [], os, h, i, x, hi => by
    cases os with
    | nil => simp at hi
    | cons o os => exact h.elim
  | a :: r, os, h, i, x, hi => by
    match os, h with
    | some (some (.cells ro s cs)) :: os, h =>
      cases i with
      | zero => simp at hi; exact ⟨_, _, _, hi.symm⟩
      | succ i => exact placed_row h.2 i x (by simpa using hi)
    | some none :: os, h =>
      cases i with
      | zero => simp at hi
      | succ i => exact placed_row h.2 i x (by simpa using hi)
def ownOnce : List Nat → List (Option (Option Blk)) → List Nat → Bool
  | a :: r, some (some (.cells false _ _)) :: os, all => Nat.beq (all.count a) 1 && ownOnce r os all
  | _ :: r, _ :: os, all => ownOnce r os all
  | _, _, _ => true
theorem ownOnce_spec : ∀ {at_ : List Nat} {os : List (Option (Option Blk))} {all : List Nat}, ownOnce at_ os all = true → ∀ (i a : Nat) (s : Nat) (cs : List Value), at_[i]? = some a → os[i]? = some (some (some (Blk.cells false s cs))) → all.count a = 1
  | [], os, all, _, i, a, s, cs, hi, _ => by simp at hi
  | x :: r, [], all, _, i, a, s, cs, _, ho => by simp at ho
  | x :: r, o :: os, all, h, i, a, s, cs, hi, ho => by
    match o, h with
    | some (some (.cells false s0 cs0)), h =>
      simp only [ownOnce, Bool.and_eq_true] at h
      cases i with
      | zero => simp at hi; subst hi; exact Nat.eq_of_beq_eq_true h.1
      | succ i => exact ownOnce_spec h.2 i a s cs (by simpa using hi) (by simpa using ho)
    | some (some (.cells true s0 cs0)), h =>
      cases i with
      | zero => simp at ho
      | succ i => exact ownOnce_spec (show ownOnce r os all = true from h) i a s cs (by simpa using hi) (by simpa using ho)
    | some (some (.kv ..)), h =>
      cases i with
      | zero => simp at ho
      | succ i => exact ownOnce_spec (show ownOnce r os all = true from h) i a s cs (by simpa using hi) (by simpa using ho)
    | some (some (.it ..)), h =>
      cases i with
      | zero => simp at ho
      | succ i => exact ownOnce_spec (show ownOnce r os all = true from h) i a s cs (by simpa using hi) (by simpa using ho)
    | some (some (.raw ..)), h =>
      cases i with
      | zero => simp at ho
      | succ i => exact ownOnce_spec (show ownOnce r os all = true from h) i a s cs (by simpa using hi) (by simpa using ho)
    | some none, h =>
      cases i with
      | zero => simp at ho
      | succ i => exact ownOnce_spec (show ownOnce r os all = true from h) i a s cs (by simpa using hi) (by simpa using ho)
    | none, h =>
      cases i with
      | zero => simp at ho
      | succ i => exact ownOnce_spec (show ownOnce r os all = true from h) i a s cs (by simpa using hi) (by simpa using ho)
theorem count_once : ∀ {l : List Nat} {a : Nat}, l.count a = 1 → ∀ (i j : Nat), l[i]? = some a → l[j]? = some a → i = j
  | [], a, h, i, j, hi, _ => by simp at hi
  | x :: r, a, h, i, j, hi, hj => by
    by_cases e : x = a
    · subst e
      rw [List.count_cons_self] at h
      have h0 : r.count x = 0 := by omega
      have hno : ∀ k : Nat, r[k]? ≠ some x := fun k hk => by
        have := List.count_pos_iff.2 (List.mem_of_getElem? hk)
        omega
      cases i with
      | zero =>
        cases j with
        | zero => rfl
        | succ j => exact absurd (by simpa using hj) (hno j)
      | succ i => exact absurd (by simpa using hi) (hno i)
    · rw [List.count_cons_of_ne e] at h
      cases i with
      | zero => simp at hi; exact absurd hi e
      | succ i =>
        cases j with
        | zero => simp at hj; exact absurd hj e
        | succ j => rw [count_once h i j (by simpa using hi) (by simpa using hj)]
theorem Spec.frame {P : Program} {g : FuncId} {xs₀ : List Value} {m₀ : Mem} {R : Value → Mem → Prop} (h : Spec P g xs₀ m₀ R) {m : Mem} (at_ : List Nat) {xs : List Value} (hx : renL (ren (fun b => at_[b]?) 4) xs₀ = some xs)
    (hp : Placed (fun b => at_[b]?) m at_ m₀.blks) (ho : ownOnce at_ m₀.blks at_ = true) {K : Value → Mem → Prop}
    (hK : ∀ v m', R v m' → @withV _ (ren (upTo at_ m.size) 4 v) ⟨fun u => @withV _ (merge m at_ m₀ m') ⟨fun M => K u M⟩⟩) : Spec P g xs m K := by
  obtain ⟨hal, hhas, hblk⟩ := hp.spec
  have hlen : at_.length = m₀.size := hal
  intro ι w ys hy hr
  obtain ⟨ι₁, hι⟩ : ∃ κ : Nat → Loc, κ = fun i => ι (at_.getD i 0) := ⟨_, rfl⟩
  have iot : ∀ i a, at_[i]? = some a → ι₁ i = ι a := fun i a hi => by rw [hι]; simp [List.getD, hi]
  have has0 : ∀ i, i < m₀.size → m₀.Has i := fun i hi => by
    have hi' : i < m₀.blks.length := hi
    obtain ⟨a, ha⟩ : ∃ a, at_[i]? = some a := ⟨_, List.getElem?_eq_getElem (by omega)⟩
    have : ∃ o, m₀.blks[i]? = some (some o) := placed_some hp i hi'
    exact this
  have hinv : ∀ b c, at_[b]? = some c → m₀.Has b ∧ ι c = ι₁ b := fun b c hb => ⟨has0 b (by rw [← hlen]; exact (List.getElem?_eq_some_iff.1 hb).1), (iot b c hb).symm⟩
  have hys : VRels m₀.Has ι₁ xs₀ ys := renL_inv (n' := m.Has) (κ := ι) hinv hx hy
  have own0 : ∀ i, m₀.Own i → ∃ a, at_[i]? = some a ∧ m.Own a ∧ ∀ j, at_[j]? = some a → j = i := fun i hi => by
    have hlt : i < m₀.size := by obtain ⟨y, hi, _⟩ := hi; exact Mem.get_lt hi
    obtain ⟨a, ha⟩ : ∃ a, at_[i]? = some a := ⟨_, List.getElem?_eq_getElem (by omega)⟩
    obtain ⟨y, hi, hy⟩ := hi
    have hg := Mem.get_some hi
    obtain ⟨ro, s, cs, rfl⟩ := placed_row hp i y hg
    have hro : ro = false := by simpa [Blk.own] using hy
    subst hro
    obtain ⟨ro', cs', k1, k2, k3⟩ := hblk i a false s cs ha hg
    rw [k3 rfl] at k1
    exact ⟨a, ha, .of k1, fun j hj => count_once (ownOnce_spec ho i a s cs ha hg) j i hj ha⟩
  have hrel : Rel ι₁ m₀ w := by
    refine ⟨fun i ro s cs hi => ?_, fun i x hi => ?_, fun i j hi hj hne => ?_, ⟨hr.glob.known, fun i hi => ?_⟩⟩
    rotate_left
    · obtain ⟨ro, s, cs, rfl⟩ := placed_row hp i x (Mem.get_some hi)
      trivial
    rotate_right
    · have hg := Mem.get_some hi
      obtain ⟨a, ha⟩ : ∃ a, at_[i]? = some a := ⟨_, List.getElem?_eq_getElem (by rw [hlen]; exact Mem.get_lt hi)⟩
      obtain ⟨ro', cs', k1, k2, k3⟩ := hblk i a ro s cs ha hg
      obtain ⟨C, e, fz, g1, g2, g3, g4, g5, g6⟩ := hr.at' a ro' s cs' k1
      obtain ⟨e1, e2⟩ := renL_spec k2
      rw [iot i a ha]
      refine ⟨C, e, fz, g1, g2, by rw [e1]; exact g3, by rw [e1]; exact g4, fun j v hj => ?_, fun hro => g6 (k3 hro)⟩
      have hj' : j < cs'.length := by rw [← e1]; exact (List.getElem?_eq_some_iff.1 hj).1
      have hx' := List.getElem?_eq_getElem hj'
      obtain ⟨g7, u, g8, g9⟩ := g5 j _ hx'
      have hren := e2 j v _ hj hx'
      exact ⟨by rw [← ren_one hren]; exact g7, u, g8, ren_inv hinv 4 _ _ _ hren g9⟩
    · obtain ⟨b, hb, hob, huniq⟩ := own0 j hj
      have hlt : i < m₀.size := by
        cases hxi : m₀.get i with
        | none => exact absurd hxi hi
        | some x => exact Mem.get_lt hxi
      obtain ⟨a, ha⟩ : ∃ a, at_[i]? = some a := ⟨_, List.getElem?_eq_getElem (by omega)⟩
      rw [iot i a ha, iot j b hb]
      refine hr.inj a b ?_ hob fun e => hne (huniq i (by rw [← e]; exact ha))
      cases hxi : m₀.get i with
      | none => exact absurd hxi hi
      | some x =>
        obtain ⟨ro, s, cs, rfl⟩ := placed_row hp i x (Mem.get_some hxi)
        obtain ⟨ro', cs', k1, _⟩ := hblk i a ro s cs ha (Mem.get_some hxi)
        rw [k1]; simp
    · obtain ⟨a, ha, hoa, _⟩ := own0 i hi
      rw [iot i a ha]
      exact hr.glob.own a hoa
  refine (h ι₁ w ys hys hrel).mono ?_
  rintro e w' ⟨v, u, κ₀, m₁, hR, rfl, hvu, hr₁, hs⟩
  obtain ⟨v', hv', hK'⟩ := withV_spec (hK v m₁ hR)
  obtain ⟨M, hM, hKM⟩ := withV_spec hK'
  -- the caller's memory behind the call
  have hM0 := hM
  unfold merge at hM
  split at hM <;> first | (cases hM; done) | skip
  rename_i q hq
  split at hM <;> first | (cases hM; done) | skip
  rename_i r hr'
  cases hM
  have hown_iff : ∀ i, (∃ s cs, m₀.blks[i]? = some (some (some (Blk.cells false s cs)))) ↔ m₀.Own i := fun i =>
    ⟨fun ⟨s, cs, hi⟩ => ⟨.cells false s cs, by unfold Mem.get; rw [hi], rfl⟩, fun ⟨y, hi, hy⟩ => by
      obtain ⟨ro, s, cs, rfl⟩ := placed_row hp i y (Mem.get_some hi)
      have hro : ro = false := by simpa [Blk.own] using hy
      subst hro
      exact ⟨s, cs, Mem.get_some hi⟩⟩
  obtain ⟨q1, q2, q3, q4, q5⟩ := mergeOld_spec hq (fun i j b hi hj ho => by
    obtain ⟨a, k1, k2, k3⟩ := own0 i ((hown_iff i).1 ho)
    rw [hi] at k1; cases k1
    exact (k3 j hj).symm) (fun i b hi => Mem.has_lt (hhas i b hi))
  obtain ⟨r1, r2⟩ := mergeNew_spec hr'
  have hqs : q.length = m.size := q1
  obtain ⟨κ, hκ⟩ : ∃ κ : Nat → Loc, κ = fun b => if b < m.size then ι b else κ₀ (b - m.size + m₀.size) := ⟨_, rfl⟩
  have kold : ∀ b, b < m.size → κ b = ι b := fun b hb => by rw [hκ]; exact if_pos hb
  have knew : ∀ b, m₀.size ≤ b → κ (m.size + (b - m₀.size)) = κ₀ b := fun b hb => by
    rw [hκ]
    simp only
    rw [if_neg (by omega)]
    congr 1; omega
  have getold : ∀ b, b < m.size → (Mem.mk (q ++ r)).blks[b]? = q[b]? := fun b hb => by
    show (q ++ r)[b]? = _
    rw [List.getElem?_append, if_pos (by omega)]
  have getnew : ∀ b, m₀.size ≤ b → (Mem.mk (q ++ r)).blks[m.size + (b - m₀.size)]? = r[b - m₀.size]? := fun b hb => by
    show (q ++ r)[_]? = _
    rw [List.getElem?_append, if_neg (by omega)]
    congr 1; omega
  have nthdrop : ∀ b, m₀.size ≤ b → nth (m₁.blks.drop m₀.size) (b - m₀.size) = nth m₁.blks b := fun b hb => by
    unfold nth
    rw [List.getElem?_drop, show m₀.size + (b - m₀.size) = b by omega]
  have hrl : r.length = m₁.size - m₀.size := by rw [r1, List.length_drop]; rfl
  -- what was not handed over, or not to be written
  have keep : ∀ b, b < m.size → (∀ i, m₀.Own i → at_[i]? ≠ some b) → (Mem.mk (q ++ r)).blks[b]? = m.blks[b]? := fun b hb hno => by
    rw [getold b hb]
    exact q4 b fun i s cs hi hs => hno i ((hown_iff i).1 ⟨s, cs, hs⟩) hi
  have hasM : ∀ b, m.Has b → (Mem.mk (q ++ r)).Has b := fun b hb => by
    have hlt := Mem.has_lt hb
    by_cases hh : ∃ i, m₀.Own i ∧ at_[i]? = some b
    · obtain ⟨i, hi, hib⟩ := hh
      obtain ⟨s, cs, hs'⟩ := (hown_iff i).2 hi
      obtain ⟨x, k1, k2⟩ := q3 i b s cs hib hs'
      unfold Mem.Has
      rw [getold b hlt, k2]
      rcases renB_some k1 with ⟨_, rfl⟩ | ⟨_, _, _, _, _, rfl, _⟩ <;> exact ⟨_, rfl⟩
    · obtain ⟨o, ho'⟩ := hb
      refine ⟨o, ?_⟩
      rw [keep b hlt fun i hi hib => hh ⟨i, hi, hib⟩]
      exact ho'
  have hτ : ∀ b c, m₁.Has b → upTo at_ m.size b = some c → (Mem.mk (q ++ r)).Has c ∧ κ c = κ₀ b := fun b c hb hc => by
    unfold upTo at hc
    split at hc
    · rename_i a ha
      cases hc
      refine ⟨hasM c (hhas b c ha), ?_⟩
      rw [kold c (Mem.has_lt (hhas b c ha)), ← iot b c ha]
      exact (hs.at_ b (has0 b (by rw [← hlen]; exact (List.getElem?_eq_some_iff.1 ha).1))).symm
    · rename_i ha
      have hge : m₀.size ≤ b := by
        rw [← hlen]
        simpa using ha
      cases hc
      rw [hlen]
      refine ⟨?_, knew b hge⟩
      have hlt : b < m₁.size := Mem.has_lt hb
      have hx : (r[b - m₀.size]?).isSome := by simp; omega
      obtain ⟨x, hx⟩ := Option.isSome_iff_exists.1 hx
      obtain ⟨k1, _⟩ := r2 _ x hx
      unfold Mem.Has
      rw [getnew b hge, hx]
      rcases renB_some k1 with ⟨_, rfl⟩ | ⟨_, _, _, _, _, rfl, _⟩ <;> exact ⟨_, rfl⟩
  -- where each live block comes from
  have orig0 : ∀ c x, (Mem.mk (q ++ r)).get c = some x →
      (∃ ro s cs i cs0, x = .cells ro s cs ∧ m₁.get i = some (.cells ro s cs0) ∧ renL (ren (upTo at_ m.size) 4) cs0 = some cs ∧ κ c = κ₀ i ∧ upTo at_ m.size i = some c ∧ ((m₀.Own i ∧ c < m.size) ∨ (m₀.size ≤ i ∧ ro = false ∧ m.size ≤ c))) ∨
      (c < m.size ∧ m.get c = some x ∧ ∀ i, m₀.Own i → at_[i]? ≠ some c) := fun c x hc => by
    have hg := Mem.get_some hc
    by_cases hlt : c < m.size
    · by_cases hh : ∃ i, m₀.Own i ∧ at_[i]? = some c
      · obtain ⟨i, hi, hib⟩ := hh
        obtain ⟨s', cs', hs'⟩ := (hown_iff i).2 hi
        obtain ⟨x, k1, k2⟩ := q3 i c s' cs' hib hs'
        rw [getold c hlt, k2] at hg
        cases hg
        rcases renB_some k1 with ⟨_, h⟩ | ⟨ro2, s2, cs2, l2, h4, h5, h6⟩
        · cases h
        · cases h5
          refine .inl ⟨ro2, s2, l2, i, cs2, rfl, nth_get h4, h6, ?_, by unfold upTo; rw [hib], .inl ⟨hi, hlt⟩⟩
          rw [kold c hlt, ← iot i c hib]
          exact (hs.at_ i (has0 i (by rw [← hlen]; exact (List.getElem?_eq_some_iff.1 hib).1))).symm
      · have hno : ∀ i, m₀.Own i → at_[i]? ≠ some c := fun i hi hib => hh ⟨i, hi, hib⟩
        refine .inr ⟨hlt, ?_, hno⟩
        rw [keep c hlt hno] at hg
        unfold Mem.get; rw [hg]
    · left
      obtain ⟨i, hi⟩ : ∃ i, i = c - m.size + m₀.size := ⟨_, rfl⟩
      have hc' : c = m.size + (i - m₀.size) := by omega
      have hge : m₀.size ≤ i := by omega
      rw [hc', getnew i hge] at hg
      obtain ⟨k1, k2⟩ := r2 _ _ hg
      rw [nthdrop i hge] at k1
      rcases renB_some k1 with ⟨_, h⟩ | ⟨ro2, s2, cs2, l2, h4, h5, h6⟩
      · cases h
      · cases h5
        refine ⟨ro2, s2, l2, i, cs2, rfl, nth_get h4, h6, by rw [hc']; exact knew i hge, ?_, .inr ⟨hge, k2 _ _ _ rfl, by omega⟩⟩
        unfold upTo
        rw [List.getElem?_eq_none (by omega), hlen, hc']
  have orig : ∀ c ro s cs, (Mem.mk (q ++ r)).get c = some (.cells ro s cs) →
      (∃ i cs0, m₁.get i = some (.cells ro s cs0) ∧ renL (ren (upTo at_ m.size) 4) cs0 = some cs ∧ κ c = κ₀ i ∧ upTo at_ m.size i = some c ∧ ((m₀.Own i ∧ c < m.size) ∨ (m₀.size ≤ i ∧ ro = false ∧ m.size ≤ c))) ∨
      (c < m.size ∧ m.get c = some (.cells ro s cs) ∧ ∀ i, m₀.Own i → at_[i]? ≠ some c) := fun c ro s cs hc => by
    rcases orig0 c _ hc with ⟨ro, s, cs, i, cs0, e, h⟩ | h
    · cases e; exact .inl ⟨i, cs0, h⟩
    · exact .inr h
  have far : ∀ i c, m₁.Own i → m.get c ≠ none → c < m.size → (∀ j, m₀.Own j → at_[j]? ≠ some c) → (κ₀ i).blk ≠ (ι c).blk := fun i c hi hc hlt hno => by
    rcases hs.own i hi with h | ⟨j, hj, hje⟩
    · have := hr.lt hc; omega
    · obtain ⟨a, k1, k2, k3⟩ := own0 j hj
      rw [← hje, iot j a k1]
      exact Ne.symm (hr.inj c a hc k2 fun e => hno j hj (by rw [e]; exact k1))
  refine ⟨v', u, κ, ⟨q ++ r⟩, hKM, rfl, ren_rel hτ 4 _ _ _ hv' hvu, ⟨fun c ro s cs hc => ?_, fun c x hc => ?_, fun c c' hc hc' hne => ?_, ⟨hr₁.glob.known, fun c hc => ?_⟩⟩, ⟨hs.os, hs.tape, hs.output, hs.size, hasM, fun b hb => kold b (Mem.has_lt hb), fun g hg hno => ?_, fun c hc => ?_⟩⟩
  · rcases orig c ro s cs hc with ⟨i, cs0, k1, k2, k3, k4, k5⟩ | ⟨k1, k2, k3⟩
    · obtain ⟨C, e, fz, g1, g2, g3, g4, g5, g6⟩ := hr₁.at' i ro s cs0 k1
      obtain ⟨e1, e2⟩ := renL_spec k2
      rw [k3]
      refine ⟨C, e, fz, g1, g2, by rw [← e1]; exact g3, by rw [← e1]; exact g4, fun j x hj => ?_, g6⟩
      have hj' : j < cs0.length := by rw [e1]; exact (List.getElem?_eq_some_iff.1 hj).1
      have hx' := List.getElem?_eq_getElem hj'
      obtain ⟨g7, y, g8, g9⟩ := g5 j _ hx'
      have hren := e2 j _ x hx' hj
      exact ⟨by rw [ren_one hren]; exact g7, y, g8, ren_rel hτ 4 _ _ _ hren g9⟩
    · obtain ⟨C, e, fz, g1, g2, g3, g4, g5, g6⟩ := hr.at' c ro s cs k2
      rw [kold c k1]
      refine ⟨C, e, fz, ?_, g2, g3, g4, fun j x hj => ?_, g6⟩
      · rw [hs.block _ (Array.getElem?_eq_some_iff.1 g1).1 fun i hi => ?_]
        · exact g1
        · obtain ⟨a, j1, j2, j3⟩ := own0 i hi
          rw [iot i a j1]
          exact Ne.symm (hr.inj c a (by rw [k2]; simp) j2 fun e => k3 i hi (by rw [e]; exact j1))
      · obtain ⟨g7, y, g8, g9⟩ := g5 j x hj
        exact ⟨g7, y, g8, g9.mono hasM fun b hb => kold b (Mem.has_lt hb)⟩
  · rcases orig0 c x hc with ⟨ro, s, cs, i, cs0, rfl, _⟩ | ⟨k1, k2, k3⟩
    · trivial
    · rw [kold c k1, hs.block _ (hr.lt (by rw [k2]; simp)) fun i hi => ?_]
      · exact (hr.oth c x k2).mono hasM fun b hb => kold b (Mem.has_lt hb)
      · obtain ⟨a, j1, j2, j3⟩ := own0 i hi
        rw [iot i a j1]
        exact Ne.symm (hr.inj c a (by rw [k2]; simp) j2 fun e => k3 i hi (by rw [e]; exact j1))
  · obtain ⟨x, hcg⟩ := Option.ne_none_iff_exists'.1 hc
    obtain ⟨y, hcg', hy⟩ := hc'
    have own1 : ∀ {ro s cs i cs0}, y = Blk.cells ro s cs → m₁.get i = some (.cells ro s cs0) → m₁.Own i := fun e h => ⟨_, h, by subst e; exact hy⟩
    rcases orig0 c x hcg with ⟨ro, s, cs, i, cs0, ex, k1, k2, k3, k4, k5⟩ | ⟨k1, k2, k3⟩
    · rcases orig0 c' y hcg' with ⟨ro', s', cs', j, cs1, ey, j1, j2, j3, j4, j5⟩ | ⟨j1, j2, j3⟩
      · rw [k3, j3]
        refine hr₁.inj i j (by rw [k1]; simp) (own1 ey j1) fun e => hne ?_
        subst e
        rw [k4] at j4; cases j4; rfl
      · rw [k3, kold c' j1]
        rcases k5 with ⟨hi, hlt⟩ | ⟨_, hro, _⟩
        · obtain ⟨a, a1, a2, a3⟩ := own0 i hi
          have e1 : κ₀ i = ι a := by rw [← iot i a a1]; exact hs.at_ i (has0 i (by rw [← hlen]; exact (List.getElem?_eq_some_iff.1 a1).1))
          rw [e1]
          have hac : a ≠ c' := fun e => j3 i hi (by rw [← e]; exact a1)
          obtain ⟨ya, hga, _⟩ := a2
          exact hr.inj a c' (by rw [hga]; simp) ⟨y, j2, hy⟩ hac
        · subst hro
          exact far i c' (.of k1) (by rw [j2]; simp) j1 j3
    · rcases orig0 c' y hcg' with ⟨ro', s', cs', j, cs1, ey, j1, j2, j3, j4, j5⟩ | ⟨j1, j2, j3⟩
      · rw [j3, kold c k1]
        exact Ne.symm (far j c (own1 ey j1) (by rw [k2]; simp) k1 k3)
      · rw [kold c k1, kold c' j1]
        exact hr.inj c c' (by rw [k2]; simp) ⟨y, j2, hy⟩ hne
  · obtain ⟨y, hcg, hy⟩ := hc
    rcases orig0 c y hcg with ⟨ro, s, cs, i, cs0, e, k1, k2, k3, k4, k5⟩ | ⟨k1, k2, k3⟩
    · rw [k3]; exact hr₁.glob.own i ⟨_, k1, by subst e; exact hy⟩
    · rw [kold c k1]; exact hr.glob.own c ⟨y, k2, hy⟩
  · refine hs.block g hg fun i hi => ?_
    obtain ⟨a, a1, a2, _⟩ := own0 i hi
    rw [iot i a a1]
    exact hno a a2
  · obtain ⟨y, hcg, hy⟩ := hc
    rcases orig0 c y hcg with ⟨ro, s, cs, i, cs0, e, k1, k2, k3, k4, k5⟩ | ⟨k1, k2, k3⟩
    · rw [k3]
      rcases hs.own i ⟨_, k1, by subst e; exact hy⟩ with h | ⟨j, hj, hje⟩
      · exact .inl h
      · obtain ⟨a, a1, a2, _⟩ := own0 j hj
        exact .inr ⟨a, a2, by rw [← hje, iot j a a1]⟩
    · exact .inr ⟨c, ⟨y, k2, hy⟩, by rw [kold c k1]⟩
end Go.Proofs.YtabffcplbjaklaaGreatDoor.Abs
