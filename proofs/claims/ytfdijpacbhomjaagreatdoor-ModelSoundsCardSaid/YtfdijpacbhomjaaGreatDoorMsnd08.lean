/-
  The abstract machine as a function over trees: its operations, one after the other.
  The abstract machine walked with unknowns: what is known of a frame; the rules, operation by operation.
  The abstract machine walked with unknowns: regions that draw their order; contracts turned into the machine's, and back.
  From worlds to the abstract memory: whatever data come in, they stand in a memory of blocks that nobody writes.
  How a card's row follows from its law's walk: the listed variables hold what the program's text lays.
  The abstract machine over small memories: names of blocks given anew; what is not named any more is let go.
-/
import Derived.Test.YtfdijpacbhomjaaGreatDoorMsnd07
import Derived.LoopN
import Derived.RowKit
import Derived.Test.YtfdijpacbhomjaaGreatDoorMsnd01
import Derived.SizedLaws
import Derived.Test.YtfdijpacbhomjaaGreatDoorCards
import Derived.Test.YtfdijpacbhomjaaGreatDoorTie
import Derived.Deep.DeepHandedRow
import Derived.Lib.LaidTab
import Derived.Lib.LaidU8
import Derived.Lay
import Derived.MakeChecks
import Derived.Shelf.Vars
set_option linter.all false
namespace Go.Proofs.YtfdijpacbhomjaaGreatDoor.Abs
open Go
abbrev Look := Operand → Option Value
noncomputable def fArgs (g : Look) (l : List Operand) : Option (List Value) :=
  List.rec (motive := fun _ => Option (List Value)) (some []) (fun x _ ih => match g x with
    | some v => match ih with
      | some r => some (v :: r)
      | none => none
    | none => none) l
noncomputable def fParts (g : Look) (l : List (Nat × Operand)) : Option (List (Nat × Value)) :=
  List.rec (motive := fun _ => Option (List (Nat × Value))) (some []) (fun p _ ih => match g p.2 with
    | some v => match ih with
      | some r => some ((p.1, v) :: r)
      | none => none
    | none => none) l
def fOpt (g : Look) (x : Option Operand) : Option (Option Value) := match x with
  | none => some none
  | some x => match g x with | some v => some (some v) | none => none
def vPick (c x y : Option Value) : Option Value := match c with
  | some (.bool true) => x
  | some (.bool false) => y
  | _ => none
def vBuild (P : Program) (t : TypeId) (l : Option (List (Nat × Value))) : Option Value := match l with
  | some l => aBuild P t l
  | none => none
def vLoad (P : Program) (get : Nat → Option Blk) (t : TypeId) (p : Option Value) : Option Value := match p with
  | some p => gLoad P get t p
  | none => none
def vNil (x : Option Value) : Option Value := match x with
  | some (.pointer (some q)) => some (.pointer (some q))
  | some (.func (.func f) xs ys) => some (.func (.func f) xs ys)
  | _ => none
noncomputable def vBin (P : Program) (op : BinOp) (t : TypeId) (cx : Bool) (x y : Option Value) : Option Value := match x with
  | some u => match y with
    | some v => fBin P op t cx u v
    | none => none
  | none => none
def vUn (op : UnOp) (x : Option Value) : Option Value := match x with
  | some v => aUn op v
  | none => none
noncomputable def vToInt (k : IntKind) (n : Int) : Value := match k, n with
  | .i64, .ofNat n => bif Nat.blt n 9223372036854775808 then .int .i64 (.ofNat n) else .int .i64 (IntKind.i64.wrap (.ofNat n))
  | .u8, .ofNat n => .int .u8 (.ofNat (Nat.mod n 256))
  | k, n => .int k (k.wrap n)
noncomputable def vConv (P : Program) (get : Nat → Option Blk) (s d : TypeId) (x : Option Value) : Option Value := match x with
  | some (.int _ n) => match P.underlying s with
    | some _ => match P.underlying d with
      | some (.int k) => some (vToInt k n)
      | _ => none
    | none => none
  | some (.string q) => match P.underlying d with
    | some .string => match P.underlying s with | some _ => some (.string q) | none => none
    | _ => none
  | some x => gToString P get s d x
  | none => none
def vIface (P : Program) (t : TypeId) (x : Option Value) : Option Value := match x with
  | some v => match P.underlying t with
    | some (.interface _) => none
    | some _ => some (.iface t v)
    | none => none
  | none => none
def vFunc (fn : Fn) (l r : Option (List Value)) : Option Value := match fn with
  | .func f => match l with
    | some l => match r with
      | some r => some (.func (.func f) l.toArray r.toArray)
      | none => none
    | none => none
  | _ => none
def vSlice (P : Program) (get : Nat → Option Blk) (t : TypeId) (x : Option Value) (lo hi : Option (Option Value)) (mx : Option Operand) : Option Value := match mx with
  | none => match x with
    | some x => match lo with
      | some lo => match hi with
        | some hi => gSlice P get t x lo hi
        | none => none
      | none => none
    | none => none
  | some _ => none
def vFieldAddr (P : Program) (t : TypeId) (x : Option Value) (f : Nat) : Option Value := match x with
  | some v => aFieldAddr P t v f
  | none => none
def vField (P : Program) (t : TypeId) (x : Option Value) (f : Nat) : Option Value := match x with
  | some (.agg cs) => match P.underlying t with
    | some (.struct fs) => match fs.toList[f]? with
      | some fd => aPart P fd.type cs.toList fd.offset
      | none => none
    | _ => none
  | _ => none
def vIndexAddr (P : Program) (t : TypeId) (x i : Option Value) : Option Value := match x with
  | some v => match i with
    | some j => aIndexAddr P t v j
    | none => none
  | none => none
def vIndex (P : Program) (t : TypeId) (x i : Option Value) : Option Value := match x with
  | some v => match i with
    | some j => aIndex P t v j
    | none => none
  | none => none
def vExtract (x : Option Value) (i : Nat) : Option Value := match x with
  | some (.tuple cs) => cs.toList[i]?
  | _ => none
def vMin (b : Bool) (xs : List Value) : Option Value := match xs with
  | x :: r => evMin b x r
  | [] => none
def vLen (P : Program) (ts : List TypeId) (xs : List Value) : Option Value := match ts with
  | [t] => match xs with
    | [x] => aLen P t x
    | _ => none
  | _ => none
def vCap (P : Program) (ts : List TypeId) (xs : List Value) : Option Value := match ts with
  | [t] => match xs with
    | [.slice none 0 0] => match P.underlying t with
      | some (.slice _) => some (.int .i64 0)
      | _ => none
    | _ => none
  | _ => none
def vLookup (P : Program) (get : Nat → Option Blk) (t : TypeId) (x i : Option Value) (ok : Bool) : Option Value := match x with
  | some v => match i with
    | some k => aLookup P get t v k ok
    | none => none
  | none => none
def vBuiltin (P : Program) (b : Builtin) (ts : List TypeId) (xs : List Value) : Option Value := match b with
  | .len => vLen P ts xs
  | .min => vMin true xs
  | .max => vMin false xs
  | .cap => vCap P ts xs
  | _ => none
def vCall (P : Program) (callee : Callee) (ts : List TypeId) (xs : Option (List Value)) : Option Value := match callee with
  | .builtin b => match xs with
    | some xs => vBuiltin P b ts xs
    | none => none
  | _ => none
noncomputable def fVal (P : Program) (g : Look) (get : Nat → Option Blk) (o : Op) : Option Value :=
  match o with
  | .move x => g x
  | .assign x => g x
  | .pick c x y => vPick (g c) (g x) (g y)
  | .build t ps => vBuild P t (fParts g ps.toList)
  | .load t p => vLoad P get t (g p)
  | .nilCheck x => vNil (g x)
  | .binOp op t x y _ => vBin P op t (isC x || isC y) (g x) (g y)
  | .unOp op _ x => vUn op (g x)
  | .convert s d x => vConv P get s d (g x)
  | .makeInterface t x => vIface P t (g x)
  | .makeFunc fn fs cs => vFunc fn (fArgs g fs.toList) (fArgs g cs.toList)
  | .slice t x lo hi mx => vSlice P get t (g x) (fOpt g lo) (fOpt g hi) mx
  | .fieldAddr t x f => vFieldAddr P t (g x) f
  | .field t x f => vField P t (g x) f
  | .indexAddr t x i => vIndexAddr P t (g x) (g i)
  | .index t x i => vIndex P t (g x) (g i)
  | .extract x i => vExtract (g x) i
  | .lookup t x i ok => vLookup P get t (g x) (g i) ok
  | .call c => vCall P c.callee c.argTypes.toList (fArgs g c.args.toList)
  | _ => none
noncomputable def mBox (P : Program) (m : FMem) (t : TypeId) (x : Option Value) : Option (Value × FMem) := match x with
  | some v => fBox P m t v
  | none => none
noncomputable def mBuildSlice (P : Program) (m : FMem) (t : TypeId) (n : Nat) (l : Option (List (Nat × Value))) : Option (Value × FMem) := match l with
  | some l => fBuildSlice P m t n l
  | none => none
noncomputable def mStore (P : Program) (m : FMem) (t : TypeId) (p x : Option Value) : Option (Value × FMem) := match p with
  | some p => match x with
    | some v => match fStore P m t p v with
      | some m' => some (undef, m')
      | none => none
    | none => none
  | none => none
noncomputable def mMakeSlice (P : Program) (m : FMem) (t : TypeId) (l c : Option Value) : Option (Value × FMem) := match l with
  | some l => match c with
    | some c => fMakeSlice P m t l c
    | none => none
  | none => none
noncomputable def mConv (P : Program) (m : FMem) (s d : TypeId) (x : Option Value) : Option (Value × FMem) := match x with
  | some (.string q) => match P.underlying d with
    | some .string => none
    | _ => fToBytes P m s d q
  | _ => none
noncomputable def fMapUpdate (P : Program) (m : FMem) (t : TypeId) (x k v : Value) : Option FMem :=
  match P.underlying t with
  | some (.map kt _) => match x with
    | .map (some b) => match m.get b with
      | some (.kv false es c) => if flat 3 v = true then match aFind P kt k es with
          | some (some (i, _)) => spine (es.modify i fun e => { e with val := v }) fun es => some (m.put b (some (.kv false es c)))
          | some none => forceV 2 k fun k => spine (es ++ [⟨k, v, c⟩]) fun es => forceN (Nat.succ c) fun d => some (m.put b (some (.kv false es d)))
          | none => none
        else none
      | _ => none
    | _ => none
  | _ => none
theorem fMapUpdate_spec {P : Program} {f f' : FMem} {m : Mem} (h : MR f m) {t : TypeId} {x k v : Value} (hx : fMapUpdate P f t x k v = some f') : ∃ m', aMapUpdate P m t x k v = some m' ∧ MR f' m' := by
  unfold fMapUpdate at hx
  unfold aMapUpdate
  split at hx <;> first | (cases hx; done) | skip
  rename_i hu
  split at hx <;> first | (cases hx; done) | skip
  split at hx <;> first | (cases hx; done) | skip
  rename_i hb
  split at hx <;> first | (cases hx; done) | skip
  rename_i hf
  simp only [hu, h.2.2 _ _ hb, if_pos hf]
  split at hx <;> first | (cases hx; done) | skip
  · rename_i hq
    rw [spine_eq] at hx
    cases hx
    simp only [hq]
    exact ⟨_, rfl, h.putOwn hb rfl _⟩
  · rename_i hq
    rw [forceV_eq, spine_eq, forceN_eq] at hx
    cases hx
    simp only [hq]
    exact ⟨_, rfl, h.putOwn hb rfl _⟩
noncomputable def mMapUpdate (P : Program) (m : FMem) (t : TypeId) (x i y : Option Value) : Option (Value × FMem) := match x with
  | some v => match i with
    | some k => match y with
      | some u => match fMapUpdate P m t v k u with
        | some m' => some (undef, m')
        | none => none
      | none => none
    | none => none
  | none => none
noncomputable def mMakeMap (m : FMem) (r : Option Operand) : Option (Value × FMem) := match r with
  | none => forceN m.n fun n => some (.map (some n), m.push (.kv false [] 0))
  | some _ => none
noncomputable def fClear (P : Program) (m : FMem) (t : TypeId) (x : Value) : Option FMem :=
  match P.underlying t with
  | some (.map _ _) => match x with
    | .map none => some m
    | .map (some b) => match m.get b with
      | some (.kv false _ c) => some (m.put b (some (.kv false [] c)))
      | _ => none
    | _ => none
  | _ => none
theorem fClear_spec {P : Program} {f f' : FMem} {m : Mem} (h : MR f m) {t : TypeId} {x : Value} (hx : fClear P f t x = some f') : ∃ m', aClear P m t x = some m' ∧ MR f' m' := by
  unfold fClear at hx
  unfold aClear
  split at hx <;> first | (cases hx; done) | skip
  rename_i hu
  simp only [hu]
  split at hx <;> first | (cases hx; done) | skip
  · cases hx; exact ⟨_, rfl, h⟩
  · split at hx <;> first | (cases hx; done) | skip
    rename_i hb
    cases hx
    simp only [h.2.2 _ _ hb]
    exact ⟨_, rfl, h.putOwn hb rfl _⟩
noncomputable def fCopy (P : Program) (m : FMem) (t tx : TypeId) (d x : Value) : Option (Value × FMem) :=
  match P.underlying t with
  | some (.slice e) => match P.underlying tx with
    | some (.slice _) => match P.info? e with
      | some i => match d, x with
        | .slice (some ⟨b, o, none⟩) dl _, .slice (some ⟨b2, o2, none⟩) n _ => match m.get b2 with
          | some (.cells _ _ cs2) => match m.get b with
            | some (.cells false st cs) => if o2 + min n dl * i.size ≤ cs2.length ∧ o + min n dl * i.size ≤ cs.length then
                forceL (forceV 1) (setL cs o ((cs2.drop o2).take (min n dl * i.size))) fun l => forceN (min n dl) fun k => some (.int .i64 (.ofNat k), m.put b (some (.cells false st l)))
              else none
            | _ => none
          | _ => none
        | _, _ => none
      | none => none
    | _ => none
  | _ => none
theorem fCopy_spec {P : Program} {f f' : FMem} {m : Mem} (h : MR f m) {t tx : TypeId} {d x u : Value} (hx : fCopy P f t tx d x = some (u, f')) : ∃ m', aCopy P m t tx d x = some (u, m') ∧ MR f' m' := by
  unfold fCopy at hx
  unfold aCopy
  split at hx <;> first | (cases hx; done) | skip
  rename_i h1
  split at hx <;> first | (cases hx; done) | skip
  rename_i h2
  split at hx <;> first | (cases hx; done) | skip
  rename_i h3
  split at hx <;> first | (cases hx; done) | skip
  split at hx <;> first | (cases hx; done) | skip
  rename_i h4
  split at hx <;> first | (cases hx; done) | skip
  rename_i h5
  split at hx <;> first | (cases hx; done) | skip
  rename_i hc
  rw [cells_eq, forceN_eq] at hx
  cases hx
  simp only [h1, h2, h3, h.2.2 _ _ h4, h.2.2 _ _ h5, if_pos hc]
  exact ⟨_, rfl, h.put h5 _⟩
noncomputable def fExtend (P : Program) (m : FMem) (t tx : TypeId) (s x : Value) : Option (Value × FMem) :=
  match P.underlying t with
  | some (.slice e) => match P.underlying tx with
    | some (.int _) => match P.info? e with
      | some i => match i.zero with
        | some z => match s, x with
          | .slice none 0 0, .int .i64 (.ofNat n) => if 0 < n ∧ n * i.bytes ≤ 140737488355328 ∧ n ≤ 140737488355328 ∧ z.cells.toList.length = i.size ∧ 0 < z.cells.toList.length ∧ flat 3 z = true ∧ oneAll z.cells.toList = true then
              spine (aZeros z.cells.toList (n * i.size)) fun cs => some (.slice (some ⟨m.n, 0, none⟩) n n, m.push (.cells false i.size cs)) else none
          | _, _ => none
        | none => none
      | none => none
    | _ => none
  | _ => none
theorem fExtend_spec {P : Program} {f f' : FMem} {m : Mem} (h : MR f m) {t tx : TypeId} {s x u : Value} (hx : fExtend P f t tx s x = some (u, f')) : ∃ m', aExtend P m t tx s x = some (u, m') ∧ MR f' m' := by
  unfold fExtend at hx
  unfold aExtend
  split at hx <;> first | (cases hx; done) | skip
  rename_i h1
  split at hx <;> first | (cases hx; done) | skip
  rename_i h2
  split at hx <;> first | (cases hx; done) | skip
  rename_i h3
  split at hx <;> first | (cases hx; done) | skip
  rename_i h4
  split at hx <;> first | (cases hx; done) | skip
  split at hx <;> first | (cases hx; done) | skip
  rename_i hc
  rw [spine_eq] at hx
  cases hx
  simp only [h1, h2, h3, h4, if_pos hc, h.1]
  exact ⟨_, rfl, h.push _⟩
noncomputable def fApp (P : Program) (m : FMem) (t tx : TypeId) (s x : Value) : Option (Value × FMem) := match P.underlying tx with
  | some (.int _) => fExtend P m t tx s x
  | _ => fAppend P m t tx s x
theorem fApp_spec {P : Program} {f f' : FMem} {m : Mem} (h : MR f m) {t tx : TypeId} {s x u : Value} (hx : fApp P f t tx s x = some (u, f')) :
    ∃ m', (match aAppend P m t tx s x with | some r => some r | none => aExtend P m t tx s x) = some (u, m') ∧ MR f' m' := by
  unfold fApp at hx
  split at hx
  · rename_i hu
    obtain ⟨m', h1, h2⟩ := fExtend_spec h hx
    refine ⟨m', ?_, h2⟩
    have : aAppend P m t tx s x = none := by
      cases hc : aAppend P m t tx s x with
      | none => rfl
      | some r =>
        unfold aAppend at hc
        split at hc <;> first | (cases hc; done) | skip
        split at hc <;> first | (cases hc; done) | skip
        split at hc <;> first | (cases hc; done) | skip
        split at hc <;> first | (cases hc; done) | skip
        split at hc <;> first | (cases hc; done) | skip
        rename_i hs
        unfold aSrc at hs
        rw [hu] at hs
        cases hs
    rw [this]
    exact h1
  · obtain ⟨m', h1, h2⟩ := fAppend_spec h hx
    exact ⟨m', by rw [h1], h2⟩
noncomputable def mTwo (k : TypeId → TypeId → Value → Value → Option (Value × FMem)) (ts : List TypeId) (xs : Option (List Value)) : Option (Value × FMem) := match ts with
  | [t, tx] => match xs with
    | some [s, x] => k t tx s x
    | _ => none
  | _ => none
noncomputable def mClear (P : Program) (m : FMem) (ts : List TypeId) (xs : Option (List Value)) : Option (Value × FMem) := match ts with
  | [t] => match xs with
    | some [x] => match fClear P m t x with
      | some m' => some (.tuple #[], m')
      | none => none
    | _ => none
  | _ => none
noncomputable def mCall (P : Program) (m : FMem) (callee : Callee) (ts : List TypeId) (xs : Option (List Value)) : Option (Value × FMem) := match callee with
  | .builtin b => match b with
    | .append => mTwo (fApp P m) ts xs
    | .copy => mTwo (fCopy P m) ts xs
    | .clear => mClear P m ts xs
    | _ => none
  | _ => none
noncomputable def fMemOp (P : Program) (g : Look) (m : FMem) (o : Op) : Option (Value × FMem) :=
  match o with
  | .alloc t => fAlloc P m t
  | .box t x => mBox P m t (g x)
  | .buildSlice t n ps => mBuildSlice P m t n (fParts g ps.toList)
  | .store t p x => mStore P m t (g p) (g x)
  | .makeSlice t l c => mMakeSlice P m t (g l) (g c)
  | .convert s d x => mConv P m s d (g x)
  | .makeMap _ r => mMakeMap m r
  | .mapUpdate t x i y => mMapUpdate P m t (g x) (g i) (g y)
  | .call c => mCall P m c.callee c.argTypes.toList (fArgs g c.args.toList)
  | _ => none
inductive Class | val | mem | fn
def clsB (b : Builtin) : Class := match b with
  | .append => .mem
  | .copy => .mem
  | .clear => .mem
  | _ => .val
def clsC (c : Callee) : Class := match c with
  | .builtin b => clsB b
  | _ => .fn
def clsT (d : Option TypeDesc) : Class := match d with
  | some (.slice _) => .mem
  | _ => .val
def cls (P : Program) (o : Op) : Class :=
  match o with
  | .alloc _ => .mem
  | .box .. => .mem
  | .buildSlice .. => .mem
  | .store .. => .mem
  | .makeSlice .. => .mem
  | .makeMap .. => .mem
  | .mapUpdate .. => .mem
  | .convert _ d _ => clsT (P.underlying d)
  | .call c => clsC c.callee
  | _ => .val
noncomputable def fCallee (g : Look) (o : Op) : Option (FuncId × List Value) := match o with
  | .call c => match c.callee with
    | .value f => match g f with
      | some (.func (.func k) fs cs) => match fArgs g c.args.toList with
        | some xs => some (k, fs.toList ++ xs ++ cs.toList)
        | none => none
      | _ => none
    | _ => none
  | _ => none
section
variable {P : Program} {g : Look} {a : List Value} (hg : ∀ x v, g x = some v → aEval a x = some v)
include hg
theorem fArgs_spec : ∀ (l : List Operand) {r : List Value}, fArgs g l = some r → evArgs a l = some r
  | [], r, h => h
  | x :: l, r, h => by
    have e : fArgs g (x :: l) = match g x with | some v => (match fArgs g l with | some r => some (v :: r) | none => none) | none => none := rfl
    rw [e] at h
    unfold evArgs
    split at h <;> first | (cases h; done) | skip
    rename_i v hv
    split at h <;> first | (cases h; done) | skip
    rename_i r' hr
    cases h
    simp only [hg x v hv, fArgs_spec l hr]
theorem fParts_spec : ∀ (l : List (Nat × Operand)) {r : List (Nat × Value)}, fParts g l = some r → evParts a l = some r
  | [], r, h => h
  | p :: l, r, h => by
    have e : fParts g (p :: l) = match g p.2 with | some v => (match fParts g l with | some r => some ((p.1, v) :: r) | none => none) | none => none := rfl
    rw [e] at h
    obtain ⟨i, x⟩ := p
    unfold evParts
    split at h <;> first | (cases h; done) | skip
    rename_i v hv
    split at h <;> first | (cases h; done) | skip
    rename_i r' hr
    cases h
    simp only [hg x v hv, fParts_spec l hr]
theorem fOpt_spec {x : Option Operand} {r : Option Value} (h : fOpt g x = some r) : evOpt a x = some r := by
  cases x with
  | none => exact h
  | some x =>
    unfold fOpt at h
    unfold evOpt
    simp only at h ⊢
    split at h <;> first | (cases h; done) | skip
    rename_i v hv
    cases h
    simp only [hg x v hv]
theorem fCallee_spec {o : Op} {r : FuncId × List Value} (h : fCallee g o = some r) : evCallee a o = some r := by
  unfold fCallee at h
  split at h <;> first | (cases h; done) | skip
  rename_i c
  obtain ⟨callee, args, ts⟩ := c
  cases callee <;> simp only at h <;> first | (cases h; done) | skip
  rename_i f
  split at h <;> first | (cases h; done) | skip
  rename_i k fs cs hk
  split at h <;> first | (cases h; done) | skip
  rename_i xs hxs
  cases h
  simp only [evCallee, hg f _ hk, fArgs_spec hg _ hxs]
theorem vToInt_eq (k : IntKind) (n : Int) : vToInt k n = .int k (k.wrap n) := by
  unfold vToInt
  split
  · rename_i n
    cases h : Nat.blt n 9223372036854775808 with
    | true => simp only [cond_true, wrap_small (blt_iff.1 h)]
    | false => rfl
  · rename_i n
    have e : IntKind.u8.wrap (Int.ofNat n) = Int.ofNat (Nat.mod n 256) := by
      have e1 : IntKind.u8.signed = false := rfl
      have e2 : IntKind.u8.bits = 8 := rfl
      unfold IntKind.wrap
      simp only [e1, e2, Bool.false_and, Bool.false_eq_true, if_false]
      rfl
    rw [e]
  · rfl
theorem fVal_spec {get : Nat → Option Blk} {m : Mem} (hm : ∀ b x, get b = some x → m.get b = some x) {o : Op} {v : Value} (h : fVal P g get o = some v) : evOp P o a m = some (v, m) := by
  cases o <;> simp only [fVal] at h <;> first | (cases h; done) | skip
  case move x => simp only [evOp, hg x v h, pureV]
  case assign x => simp only [evOp, hg x v h, pureV]
  case pick c x y =>
    unfold vPick at h
    split at h <;> first | (cases h; done) | skip
    · rename_i hc; simp only [evOp, hg c _ hc, hg x v h, pureV]
    · rename_i hc; simp only [evOp, hg c _ hc, hg y v h, pureV]
  case build t ps =>
    unfold vBuild at h
    split at h <;> first | (cases h; done) | skip
    rename_i l hl
    simp only [evOp, fParts_spec hg _ hl, h, pureV]
  case load t p =>
    unfold vLoad at h
    split at h <;> first | (cases h; done) | skip
    rename_i q hq
    have : aLoad P m t q = some v := gLoad_mono hm h
    simp only [evOp, hg p q hq, this, pureV]
  case nilCheck x =>
    unfold vNil at h
    split at h <;> first | (cases h; done) | skip
    all_goals
      rename_i hx
      cases h
      simp only [evOp, hg x _ hx]
  case binOp op t x y ty =>
    unfold vBin at h
    split at h <;> first | (cases h; done) | skip
    rename_i u hu
    split at h <;> first | (cases h; done) | skip
    rename_i w hw
    simp only [evOp, hg x u hu, hg y w hw, fBin_eq h, pureV]
  case unOp op t x =>
    unfold vUn at h
    split at h <;> first | (cases h; done) | skip
    rename_i u hu
    simp only [evOp, hg x u hu, h, pureV]
  case convert s d x =>
    unfold vConv at h
    split at h <;> first | (cases h; done) | skip
    · rename_i k n hx
      split at h <;> first | (cases h; done) | skip
      rename_i hs
      split at h <;> first | (cases h; done) | skip
      rename_i k' hd
      cases h
      simp only [evOp, hg x _ hx, evConvert, hs, hd, vToInt_eq hg]
    · rename_i q hx
      split at h <;> first | (cases h; done) | skip
      rename_i hd
      split at h <;> first | (cases h; done) | skip
      rename_i hs
      cases h
      simp only [evOp, hg x _ hx, evConvert, hd, hs]
    · rename_i u hne hne' hx
      have : aToString P m s d u = some v := gToString_mono hm h
      simp only [evOp, hg x _ hx]
      unfold evConvert
      split
      · exact absurd rfl (hne _ _)
      · exact absurd rfl (hne' _)
      · simp only [this]
  case makeInterface t x =>
    unfold vIface at h
    split at h <;> first | (cases h; done) | skip
    rename_i u hu
    split at h <;> first | (cases h; done) | skip
    rename_i d hne hd
    cases h
    simp only [evOp, hg x u hu, hd]
  case makeFunc fn fs cs =>
    unfold vFunc at h
    split at h <;> first | (cases h; done) | skip
    split at h <;> first | (cases h; done) | skip
    rename_i l hl
    split at h <;> first | (cases h; done) | skip
    rename_i r hr
    cases h
    simp only [evOp, fArgs_spec hg _ hl, fArgs_spec hg _ hr]
  case slice t x lo hi mx =>
    unfold vSlice at h
    split at h <;> first | (cases h; done) | skip
    split at h <;> first | (cases h; done) | skip
    rename_i u hu
    split at h <;> first | (cases h; done) | skip
    rename_i l hl
    split at h <;> first | (cases h; done) | skip
    rename_i r hr
    have : aSlice P m t u l r = some v := gSlice_mono hm h
    simp only [evOp, hg x u hu, fOpt_spec hg hl, fOpt_spec hg hr, this, pureV]
  case fieldAddr t x f =>
    unfold vFieldAddr at h
    split at h <;> first | (cases h; done) | skip
    rename_i u hu
    simp only [evOp, hg x u hu, h, pureV]
  case field t x f =>
    unfold vField at h
    split at h <;> first | (cases h; done) | skip
    rename_i cs hu
    split at h <;> first | (cases h; done) | skip
    rename_i fs hs
    split at h <;> first | (cases h; done) | skip
    rename_i fd hf
    simp only [evOp, hg x _ hu, hs, hf, h, pureV]
  case indexAddr t x i =>
    unfold vIndexAddr at h
    split at h <;> first | (cases h; done) | skip
    rename_i u hu
    split at h <;> first | (cases h; done) | skip
    rename_i j hj
    simp only [evOp, hg x u hu, hg i j hj, h, pureV]
  case index t x i =>
    unfold vIndex at h
    split at h <;> first | (cases h; done) | skip
    rename_i u hu
    split at h <;> first | (cases h; done) | skip
    rename_i j hj
    simp only [evOp, hg x u hu, hg i j hj, h, pureV]
  case extract x i =>
    unfold vExtract at h
    split at h <;> first | (cases h; done) | skip
    rename_i cs hu
    simp only [evOp, hg x _ hu, h, pureV]
  case call c =>
    obtain ⟨callee, args, ts⟩ := c
    unfold vCall at h
    cases callee <;> simp only at h <;> first | (cases h; done) | skip
    rename_i b
    split at h <;> first | (cases h; done) | skip
    rename_i xs hxs
    simp only [evOp, fArgs_spec hg _ hxs]
    unfold vBuiltin at h
    unfold evBuiltin
    split at h <;> first | (cases h; done) | skip
    · unfold vLen at h
      split at h <;> first | (cases h; done) | skip
      rename_i ht
      split at h <;> first | (cases h; done) | skip
      simp only [ht, h]
    · unfold vMin at h
      split at h <;> first | (cases h; done) | skip
      simp only [h]
    · unfold vMin at h
      split at h <;> first | (cases h; done) | skip
      simp only [h]
    · unfold vCap at h
      split at h <;> first | (cases h; done) | skip
      rename_i ht
      split at h <;> first | (cases h; done) | skip
      split at h <;> first | (cases h; done) | skip
      rename_i hu
      cases h
      simp only [ht, hu]
  case lookup t x i ok =>
    unfold vLookup at h
    split at h <;> first | (cases h; done) | skip
    rename_i u hu
    split at h <;> first | (cases h; done) | skip
    rename_i j hj
    simp only [evOp, hg x u hu, hg i j hj, aLookup_mono hm h, pureV]
theorem fMemOp_spec {f f' : FMem} {m : Mem} (hm : MR f m) {o : Op} {v : Value} (h : fMemOp P g f o = some (v, f')) : ∃ m', evOp P o a m = some (v, m') ∧ MR f' m' := by
  cases o <;> simp only [fMemOp] at h <;> first | (cases h; done) | skip
  case makeMap t r =>
    unfold mMakeMap at h
    split at h <;> first | (cases h; done) | skip
    rw [forceN_eq] at h
    cases h
    exact ⟨_, by simp only [evOp, hm.1], hm.push _⟩
  case mapUpdate t x i y =>
    unfold mMapUpdate at h
    split at h <;> first | (cases h; done) | skip
    rename_i u hu
    split at h <;> first | (cases h; done) | skip
    rename_i j hj
    split at h <;> first | (cases h; done) | skip
    rename_i k hk
    split at h <;> first | (cases h; done) | skip
    rename_i f1 h1
    cases h
    obtain ⟨m', h2, h3⟩ := fMapUpdate_spec hm h1
    exact ⟨m', by simp only [evOp, hg x u hu, hg i j hj, hg y k hk, h2], h3⟩
  case alloc t =>
    obtain ⟨m', h1, h2⟩ := fAlloc_spec hm h
    exact ⟨m', h1, h2⟩
  case box t x =>
    unfold mBox at h
    split at h <;> first | (cases h; done) | skip
    rename_i u hu
    obtain ⟨m', h1, h2⟩ := fBox_spec hm h
    exact ⟨m', by simp only [evOp, hg x u hu, h1], h2⟩
  case buildSlice t n ps =>
    unfold mBuildSlice at h
    split at h <;> first | (cases h; done) | skip
    rename_i l hl
    obtain ⟨m', h1, h2⟩ := fBuildSlice_spec hm h
    exact ⟨m', by simp only [evOp, fParts_spec hg _ hl, h1], h2⟩
  case store t p x =>
    unfold mStore at h
    split at h <;> first | (cases h; done) | skip
    rename_i q hq
    split at h <;> first | (cases h; done) | skip
    rename_i u hu
    split at h <;> first | (cases h; done) | skip
    rename_i f1 h1
    cases h
    obtain ⟨m', h2, h3⟩ := fStore_spec hm h1
    exact ⟨m', by simp only [evOp, hg p q hq, hg x u hu, h2], h3⟩
  case makeSlice t l c =>
    unfold mMakeSlice at h
    split at h <;> first | (cases h; done) | skip
    rename_i u hu
    split at h <;> first | (cases h; done) | skip
    rename_i q hq
    obtain ⟨m', h1, h2⟩ := fMakeSlice_spec hm h
    exact ⟨m', by simp only [evOp, hg l u hu, hg c q hq, h1], h2⟩
  case convert s d x =>
    unfold mConv at h
    split at h <;> first | (cases h; done) | skip
    rename_i q hx
    split at h <;> first | (cases h; done) | skip
    rename_i hne
    obtain ⟨m', h1, h2⟩ := fToBytes_spec hm h
    refine ⟨m', ?_, h2⟩
    simp only [evOp, hg x _ hx, evConvert]
    exact h1
  case call c =>
    obtain ⟨callee, args, ts⟩ := c
    unfold mCall at h
    cases callee <;> simp only at h <;> first | (cases h; done) | skip
    rename_i b
    cases b <;> simp only at h <;> first | (cases h; done) | skip
    case append =>
      unfold mTwo at h
      split at h <;> first | (cases h; done) | skip
      rename_i t tx ht
      split at h <;> first | (cases h; done) | skip
      rename_i s x hxs
      obtain ⟨m', h1, h2⟩ := fApp_spec hm h
      exact ⟨m', by simp only [evOp, fArgs_spec hg _ hxs, evBuiltin, ht]; exact h1, h2⟩
    case copy =>
      unfold mTwo at h
      split at h <;> first | (cases h; done) | skip
      rename_i t tx ht
      split at h <;> first | (cases h; done) | skip
      rename_i s x hxs
      obtain ⟨m', h1, h2⟩ := fCopy_spec hm h
      exact ⟨m', by simp only [evOp, fArgs_spec hg _ hxs, evBuiltin, ht, h1], h2⟩
    case clear =>
      unfold mClear at h
      split at h <;> first | (cases h; done) | skip
      rename_i t ht
      split at h <;> first | (cases h; done) | skip
      rename_i x hxs
      split at h <;> first | (cases h; done) | skip
      rename_i f1 h1
      cases h
      obtain ⟨m', h2, h3⟩ := fClear_spec hm h1
      exact ⟨m', by simp only [evOp, fArgs_spec hg _ hxs, evBuiltin, ht, h2], h3⟩
end
end Go.Proofs.YtfdijpacbhomjaaGreatDoor.Abs
namespace Go.Proofs.YtfdijpacbhomjaaGreatDoor.Abs
open Go
section
variable [Defs]
abbrev AL := List (Nat × Value)
def AL.get : AL → Nat → Option Value
  | [], _ => none
  | (s, v) :: r, t => if s = t then some v else AL.get r t
def Knows (n : Nat) (f : AL) (a : List Value) : Prop := a.length = n ∧ ∀ t v, AL.get f t = some v → a[t]? = some v
def AL.look (f : AL) (x : Operand) : Option Value := match x with
  | .tmp t => AL.get f t
  | .const v => if flat 3 v = true then some v else none
  | .func k => some (.func (.func k) #[] #[])
  | .global _ => none
theorem Knows.look {n : Nat} {f : AL} {a : List Value} (h : Knows n f a) (x : Operand) (v : Value) (hx : AL.look f x = some v) : aEval a x = some v := by
  cases x with
  | tmp t => exact h.2 t v hx
  | const c => exact hx
  | func k => exact hx
  | global g => cases hx
theorem Knows.put {n : Nat} {f : AL} {a : List Value} (h : Knows n f a) {t : Nat} (ht : t < n) (v : Value) : Knows n ((t, v) :: f) (a.set t v) := by
  refine ⟨by simp [h.1], fun s u hs => ?_⟩
  simp only [AL.get] at hs
  rw [List.getElem?_set]
  split at hs
  · rename_i e
    rw [if_pos e, if_pos (by rw [h.1]; exact ht)]
    exact hs
  · rename_i e
    rw [if_neg e]
    exact h.2 s u hs
class Box (α : Type) where
  k : α
def sPut (n : Nat) (d : Option Nat) (v : Value) (f : AL) [c : Box (AL → Prop)] : Prop := match d with
  | none => c.k f
  | some t => t < n ∧ c.k ((t, v) :: f)
theorem sPut_spec {n : Nat} {d : Option Nat} {v : Value} {f : AL} {k : AL → Prop} (h : @sPut n d v f ⟨k⟩) {a : List Value} (ha : Knows n f a) : ∃ f', Knows n f' (aPut a d v) ∧ k f' := by
  cases d with
  | none => exact ⟨f, ha, h⟩
  | some t => exact ⟨_, ha.put h.1 v, h.2⟩
def aBinI (op : BinOp) (k : IntKind) (a : Int) (k' : IntKind) (b : Int) : Option Value := match op with
  | .shl => if 0 ≤ b then some (.int k (k.wrap (a * 2 ^ min b.toNat k.bits))) else none
  | .shr => if 0 ≤ b then some (.int k (a.fdiv (2 ^ min b.toNat k.bits))) else none
  | op => if k = k' then aInt op k a b else none
theorem aBin_ii (P : Program) (op : BinOp) (t : TypeId) (cx : Bool) (k k' : IntKind) (a b : Int) : aBin P op t cx (.int k a) (.int k' b) = aBinI op k a k' b := by cases op <;> rfl
theorem aBin_ss (P : Program) (op : BinOp) (t : TypeId) (cx : Bool) (a b : ByteArray) : aBin P op t cx (.string a) (.string b) = aStr op a b := rfl
def withV {α : Type} (o : Option α) [c : Box (α → Prop)] : Prop := match o with
  | some v => c.k v
  | none => False
theorem withV_some {α : Type} (v : α) (k : α → Prop) : @withV α (some v) ⟨k⟩ = k v := rfl
def Later [c : Box Prop] : Prop := c.k
theorem withV_ite {α : Type} (c : Prop) [Decidable c] (o : Option α) (k : α → Prop) : @withV α (if c then o else none) ⟨k⟩ = (c ∧ @withV α o ⟨k⟩) := by
  by_cases h : c <;> simp [h, withV]
theorem withV_spec {α : Type} {o : Option α} {k : α → Prop} (h : @withV α o ⟨k⟩) : ∃ v, o = some v ∧ k v := by
  cases o with
  | none => exact h.elim
  | some v => exact ⟨v, rfl, h⟩
def sArgs (g : Look) : List Operand → Option (List Value)
  | [] => some []
  | x :: r => match g x with
    | some v => match sArgs g r with
      | some l => some (v :: l)
      | none => none
    | none => none
def sParts (g : Look) : List (Nat × Operand) → Option (List (Nat × Value))
  | [] => some []
  | (i, x) :: r => match g x with
    | some v => match sParts g r with
      | some l => some ((i, v) :: l)
      | none => none
    | none => none
def sBin (P : Program) (op : BinOp) (t : TypeId) (cx : Bool) (x y : Option Value) : Option Value := match x, y with
  | some u, some v => aBin P op t cx u v
  | _, _ => none
def sConv (P : Program) (get : Nat → Option Blk) (s d : TypeId) (x : Option Value) : Option Value := match x with
  | some (.int _ n) => match P.underlying s with
    | some _ => match P.underlying d with
      | some (.int k) => some (.int k (k.wrap n))
      | _ => none
    | none => none
  | some (.string q) => match P.underlying d with
    | some .string => match P.underlying s with | some _ => some (.string q) | none => none
    | _ => none
  | some x => gToString P get s d x
  | none => none
def sLookup (P : Program) (get : Nat → Option Blk) (t : TypeId) (x k : Option Value) (ok : Bool) : Option Value := match x with
  | some v => match k with
    | some i => aLookup P get t v i ok
    | none => none
  | none => none
def sEntry (get : Nat → Option Blk) (x : Option Value) : Option Value := match x with
  | some v => aEntry get v
  | none => none
def sVal (P : Program) (g : Look) (get : Nat → Option Blk) (o : Op) : Option Value :=
  match o with
  | .move x => g x
  | .assign x => g x
  | .pick c x y => vPick (g c) (g x) (g y)
  | .build t ps => vBuild P t (sParts g ps.toList)
  | .load t p => vLoad P get t (g p)
  | .nilCheck x => vNil (g x)
  | .binOp op t x y _ => sBin P op t (isC x || isC y) (g x) (g y)
  | .unOp op _ x => vUn op (g x)
  | .convert s d x => sConv P get s d (g x)
  | .makeInterface t x => vIface P t (g x)
  | .makeFunc fn fs cs => vFunc fn (sArgs g fs.toList) (sArgs g cs.toList)
  | .slice t x lo hi mx => vSlice P get t (g x) (fOpt g lo) (fOpt g hi) mx
  | .fieldAddr t x f => vFieldAddr P t (g x) f
  | .field t x f => vField P t (g x) f
  | .indexAddr t x i => vIndexAddr P t (g x) (g i)
  | .index t x i => vIndex P t (g x) (g i)
  | .extract x i => vExtract (g x) i
  | .call c => vCall P c.callee c.argTypes.toList (sArgs g c.args.toList)
  | .lookup t x k ok => sLookup P get t (g x) (g k) ok
  | .entry x => sEntry get (g x)
  | _ => none
theorem sArgs_eq (g : Look) : ∀ l, sArgs g l = fArgs g l
  | [] => rfl
  | x :: r => by
    have e : fArgs g (x :: r) = match g x with | some v => (match fArgs g r with | some r => some (v :: r) | none => none) | none => none := rfl
    rw [e, ← sArgs_eq g r]; rfl
theorem sParts_eq (g : Look) : ∀ l, sParts g l = fParts g l
  | [] => rfl
  | (i, x) :: r => by
    have e : fParts g ((i, x) :: r) = match g x with | some v => (match fParts g r with | some l => some ((i, v) :: l) | none => none) | none => none := rfl
    rw [e, ← sParts_eq g r]; rfl
theorem sVal_spec {P : Program} {g : Look} {a : List Value} (hg : ∀ x v, g x = some v → aEval a x = some v) {get : Nat → Option Blk} {m : Mem} (hm : ∀ b x, get b = some x → m.get b = some x) {o : Op} {v : Value} (h : sVal P g get o = some v) : evOp P o a m = some (v, m) := by
  by_cases hb : ∃ op t x y ty, o = .binOp op t x y ty
  · obtain ⟨op, t, x, y, ty, rfl⟩ := hb
    simp only [sVal] at h
    unfold sBin at h
    split at h <;> first | (cases h; done) | skip
    rename_i u w hu hw
    simp only [evOp, hg x u hu, hg y w hw, h, pureV]
  by_cases hc : ∃ s d x, o = .convert s d x
  · obtain ⟨s, d, x, rfl⟩ := hc
    simp only [sVal] at h
    unfold sConv at h
    split at h <;> first | (cases h; done) | skip
    · rename_i k n hx
      split at h <;> first | (cases h; done) | skip
      rename_i hs
      split at h <;> first | (cases h; done) | skip
      rename_i k' hd
      cases h
      simp only [evOp, hg x _ hx, evConvert, hs, hd]
    · rename_i q hx
      split at h <;> first | (cases h; done) | skip
      rename_i hd
      split at h <;> first | (cases h; done) | skip
      rename_i hs
      cases h
      simp only [evOp, hg x _ hx, evConvert, hd, hs]
    · rename_i u hne hne' hx
      have : aToString P m s d u = some v := gToString_mono hm h
      simp only [evOp, hg x _ hx]
      unfold evConvert
      split
      · exact absurd rfl (hne _ _)
      · exact absurd rfl (hne' _)
      · simp only [this]
  by_cases he : ∃ x, o = .entry x
  · obtain ⟨x, rfl⟩ := he
    simp only [sVal] at h
    unfold sEntry at h
    split at h <;> first | (cases h; done) | skip
    rename_i u hu
    simp only [evOp, hg x u hu, aEntry_mono hm h, pureV]
  have e : fVal P g get o = sVal P g get o := by
    cases o <;> simp only [fVal, sVal, sArgs_eq, sParts_eq] <;> first | rfl | skip
    · exact absurd ⟨_, _, _, _, _, rfl⟩ hb
    · exact absurd ⟨_, _, _, rfl⟩ hc
    · exact absurd ⟨_, rfl⟩ he
  exact fVal_spec hg hm (by rw [e]; exact h)
def nBox (P : Program) (t : TypeId) (v : Value) : Option Blk := if oneAll v.cells.toList = true then some (.cells false (aStride P t) v.cells.toList) else none
def nAlloc (P : Program) (t : TypeId) : Option Blk :=
  match P.info? t with
  | some i => match i.zero with
    | some z => if flat 3 z = true then nBox P t z else none
    | none => none
  | none => none
def nBuildSlice (P : Program) (t : TypeId) (len : Nat) (parts : List (Nat × Value)) : Option Blk :=
  match P.underlying t with
  | some (.slice e) => match P.info? e with
    | some ie => match ie.zero with
      | some z => if flat 3 z = true ∧ len * ie.size ≤ 16777216 ∧ 0 < z.cells.toList.length ∧ oneAll z.cells.toList = true ∧ parts.all (fun p => oneAll p.2.cells.toList) = true then
          match aFill (fun i => some (i * ie.size, ie.size)) (aZeros z.cells.toList (len * ie.size)) parts with
          | some cs => some (.cells false ie.size cs)
          | none => none
        else none
      | none => none
    | none => none
  | _ => none
def nToBytes (P : Program) (src dst : TypeId) (s : ByteArray) : Option Blk :=
  match P.underlying src with
  | some .string => match P.underlying dst with
    | some (.slice e) => match P.underlying e with
      | some (.int .u8) => if bsize s ≤ 140737488355328 then some (.cells false 1 (byteCells' s)) else none
      | _ => none
    | _ => none
  | _ => none
def sNew (P : Program) (g : Look) (n : Nat) (o : Op) : Option (Value × Blk) :=
  match o with
  | .alloc t => match nAlloc P t with
    | some b => some (.pointer (some ⟨n, 0, none⟩), b)
    | none => none
  | .box t x => match g x with
    | some v => match nBox P t v with
      | some b => some (.pointer (some ⟨n, 0, none⟩), b)
      | none => none
    | none => none
  | .buildSlice t len ps => match sParts g ps.toList with
    | some l => match nBuildSlice P t len l with
      | some b => some (.slice (some ⟨n, 0, none⟩) len len, b)
      | none => none
    | none => none
  | .convert s d x => match g x with
    | some (.string q) => match P.underlying d with
      | some .string => none
      | _ => match nToBytes P s d q with
        | some b => some (.slice (some ⟨n, 0, none⟩) (bsize q) (bsize q), b)
        | none => none
    | _ => none
  | .makeMap _ r => match r with
    | none => some (.map (some n), .kv false [] 0)
    | some _ => none
  | _ => none
theorem nBox_spec {P : Program} {m : Mem} {t : TypeId} {v : Value} {b : Blk} (h : nBox P t v = some b) : aBox P m t v = some (.pointer (some ⟨m.size, 0, none⟩), m.push b) ∧ ownB (some b) = true := by
  unfold nBox at h
  unfold aBox
  split at h <;> first | (cases h; done) | skip
  rename_i hc
  cases h
  rw [if_pos hc]
  exact ⟨rfl, rfl⟩
theorem sNew_spec {P : Program} {g : Look} {a : List Value} (hg : ∀ x v, g x = some v → aEval a x = some v) {m : Mem} {o : Op} {v : Value} {b : Blk} (h : sNew P g m.size o = some (v, b)) : evOp P o a m = some (v, m.push b) ∧ ownB (some b) = true := by
  cases o <;> simp only [sNew] at h <;> first | (cases h; done) | skip
  case alloc t =>
    split at h <;> first | (cases h; done) | skip
    rename_i b' hb
    cases h
    unfold nAlloc at hb
    split at hb <;> first | (cases hb; done) | skip
    rename_i i hi
    split at hb <;> first | (cases hb; done) | skip
    rename_i z hz
    split at hb <;> first | (cases hb; done) | skip
    rename_i hf
    obtain ⟨h1, h2⟩ := nBox_spec (m := m) hb
    exact ⟨by simp only [evOp, aAlloc, hi, hz, if_pos hf, h1], h2⟩
  case box t x =>
    split at h <;> first | (cases h; done) | skip
    rename_i u hu
    split at h <;> first | (cases h; done) | skip
    rename_i b' hb
    cases h
    obtain ⟨h1, h2⟩ := nBox_spec (m := m) hb
    exact ⟨by simp only [evOp, hg x u hu, h1], h2⟩
  case buildSlice t len ps =>
    split at h <;> first | (cases h; done) | skip
    rename_i l hl
    rw [sParts_eq] at hl
    split at h <;> first | (cases h; done) | skip
    rename_i b' hb
    cases h
    unfold nBuildSlice at hb
    split at hb <;> first | (cases hb; done) | skip
    rename_i e hu
    split at hb <;> first | (cases hb; done) | skip
    rename_i ie hi
    split at hb <;> first | (cases hb; done) | skip
    rename_i z hz
    split at hb <;> first | (cases hb; done) | skip
    rename_i hc
    split at hb <;> first | (cases hb; done) | skip
    rename_i cs hcs
    cases hb
    exact ⟨by simp only [evOp, fParts_spec hg _ hl, aBuildSlice, hu, hi, hz, if_pos hc, hcs], rfl⟩
  case convert s d x =>
    split at h <;> first | (cases h; done) | skip
    rename_i q hx
    split at h <;> first | (cases h; done) | skip
    rename_i hne
    split at h <;> first | (cases h; done) | skip
    rename_i b' hb
    cases h
    unfold nToBytes at hb
    split at hb <;> first | (cases hb; done) | skip
    rename_i hs
    split at hb <;> first | (cases hb; done) | skip
    rename_i e hd
    split at hb <;> first | (cases hb; done) | skip
    rename_i he
    split at hb <;> first | (cases hb; done) | skip
    rename_i hc
    cases hb
    exact ⟨by simp only [evOp, hg x _ hx, evConvert, hd, aToBytes, hs, he, if_pos hc], rfl⟩
  case makeMap t r =>
    cases r <;> simp only at h <;> first | (cases h; done) | skip
    cases h
    exact ⟨rfl, rfl⟩
def sMem (P : Program) (g : Look) (m : Mem) (o : Op) : Option (Value × Mem) :=
  match o with
  | .store t p x => match g p with
    | some q => match g x with
      | some v => match aStore P m t q v with
        | some m' => some (undef, m')
        | none => none
      | none => none
    | none => none
  | .makeSlice t l c => match g l with
    | some u => match g c with
      | some v => aMakeSlice P m t u v
      | none => none
    | none => none
  | .call c => match c.callee with
    | .builtin b => match b with
      | .append => match c.argTypes.toList with
        | [t, tx] => match sArgs g c.args.toList with
          | some [s, x] => aAppend P m t tx s x
          | _ => none
        | _ => none
      | .copy => match c.argTypes.toList with
        | [t, tx] => match sArgs g c.args.toList with
          | some [s, x] => aCopy P m t tx s x
          | _ => none
        | _ => none
      | .clear => match c.argTypes.toList with
        | [t] => match sArgs g c.args.toList with
          | some [x] => match aClear P m t x with
            | some m' => some (.tuple #[], m')
            | none => none
          | _ => none
        | _ => none
      | _ => none
    | _ => none
  | .mapUpdate t x k y => match g x with
    | some v => match g k with
      | some i => match g y with
        | some u => match aMapUpdate P m t v i u with
          | some m' => some (undef, m')
          | none => none
        | none => none
      | none => none
    | none => none
  | .range t x => match g x with
    | some v => aRange P m t v
    | none => none
  | _ => none
theorem sMem_spec {P : Program} {g : Look} {a : List Value} (hg : ∀ x v, g x = some v → aEval a x = some v) {m m' : Mem} {o : Op} {v : Value} (h : sMem P g m o = some (v, m')) : evOp P o a m = some (v, m') := by
  cases o <;> simp only [sMem] at h <;> first | (cases h; done) | skip
  case store t p x =>
    split at h <;> first | (cases h; done) | skip
    rename_i q hq
    split at h <;> first | (cases h; done) | skip
    rename_i u hu
    split at h <;> first | (cases h; done) | skip
    rename_i m1 h1
    cases h
    simp only [evOp, hg p q hq, hg x u hu, h1]
  case makeSlice t l c =>
    split at h <;> first | (cases h; done) | skip
    rename_i u hu
    split at h <;> first | (cases h; done) | skip
    rename_i q hq
    simp only [evOp, hg l u hu, hg c q hq, h]
  case call c =>
    obtain ⟨callee, args, ts⟩ := c
    cases callee <;> simp only at h <;> first | (cases h; done) | skip
    rename_i b
    cases b <;> simp only at h <;> first | (cases h; done) | skip
    case append =>
      split at h <;> first | (cases h; done) | skip
      rename_i t tx ht
      split at h <;> first | (cases h; done) | skip
      rename_i s x hxs
      rw [sArgs_eq] at hxs
      simp only [evOp, fArgs_spec hg _ hxs, evBuiltin, ht, h]
    case copy =>
      split at h <;> first | (cases h; done) | skip
      rename_i t tx ht
      split at h <;> first | (cases h; done) | skip
      rename_i s x hxs
      rw [sArgs_eq] at hxs
      simp only [evOp, fArgs_spec hg _ hxs, evBuiltin, ht, h]
    case clear =>
      split at h <;> first | (cases h; done) | skip
      rename_i t ht
      split at h <;> first | (cases h; done) | skip
      rename_i x hxs
      split at h <;> first | (cases h; done) | skip
      rename_i m1 h1
      cases h
      rw [sArgs_eq] at hxs
      simp only [evOp, fArgs_spec hg _ hxs, evBuiltin, ht, h1]
  case mapUpdate t x k y =>
    split at h <;> first | (cases h; done) | skip
    rename_i u hu
    split at h <;> first | (cases h; done) | skip
    rename_i i hi
    split at h <;> first | (cases h; done) | skip
    rename_i y hy
    split at h <;> first | (cases h; done) | skip
    rename_i m1 h1
    cases h
    simp only [evOp, hg x u hu, hg k i hi, hg _ _ hy, h1]
  case range t x =>
    split at h <;> first | (cases h; done) | skip
    rename_i u hu
    simp only [evOp, hg x u hu, h]
def sAny (g : Look) (o : Op) (m : Mem) : Option (Value → Mem → Prop) := match o with
  | .next it isS => match isS with
    | false => match g it with
      | some v => aNext m v
      | none => none
    | true => none
  | _ => none
theorem sAny_spec {g : Look} {a : List Value} (hg : ∀ x v, g x = some v → aEval a x = some v) {m : Mem} {o : Op} {R : Value → Mem → Prop} (h : sAny g o m = some R) : evAny o a m = some R := by
  cases o <;> simp only [sAny] at h <;> first | (cases h; done) | skip
  rename_i it isS
  cases isS <;> simp only at h <;> first | (cases h; done) | skip
  split at h <;> first | (cases h; done) | skip
  rename_i v hv
  simp only [evAny, hg it v hv, h]
inductive Kind | val | new | mem | fn | any
def kindB (b : Builtin) : Kind := match b with
  | .append => .mem
  | .clear => .mem
  | .copy => .mem
  | _ => .val
def kindC (c : Callee) : Kind := match c with
  | .builtin b => kindB b
  | _ => .fn
def kindT (d : Option TypeDesc) : Kind := match d with
  | some (.slice _) => .new
  | _ => .val
def kind (P : Program) (o : Op) : Kind :=
  match o with
  | .alloc _ => .new
  | .box .. => .new
  | .buildSlice .. => .new
  | .store .. => .mem
  | .makeSlice .. => .mem
  | .makeMap .. => .new
  | .mapUpdate .. => .mem
  | .range .. => .mem
  | .next .. => .any
  | .convert _ d _ => kindT (P.underlying d)
  | .call c => kindC c.callee
  | _ => .val
def sCallee (g : Look) (o : Op) : Option (FuncId × List Value) := match o with
  | .call c => match c.callee with
    | .value f => match g f with
      | some (.func (.func k) fs cs) => match sArgs g c.args.toList with
        | some xs => some (k, fs.toList ++ xs ++ cs.toList)
        | none => none
      | _ => none
    | _ => none
  | _ => none
theorem sCallee_eq (g : Look) (o : Op) : sCallee g o = fCallee g o := by
  cases o <;> simp only [sCallee, fCallee, sArgs_eq] <;> rfl
def sOp (P : Program) (o : Op) (f : AL) (m : Mem) [c : Box (Value → Mem → Prop)] : Prop :=
  match kind P o with
  | .val => @withV _ (sVal P (AL.look f) m.get o) ⟨fun v => c.k v m⟩
  | .new => @withV _ (sNew P (AL.look f) m.size o) ⟨fun p => c.k p.1 (m.push p.2)⟩
  | .mem => @withV _ (sMem P (AL.look f) m o) ⟨fun p => c.k p.1 p.2⟩
  | .fn => @withV _ (sCallee (AL.look f) o) ⟨fun p => entered P p.1 = true ∧ ∃ R, Spec P p.1 p.2 m R ∧ @Later ⟨∀ v m', R v m' → c.k v m'⟩⟩
  | .any => @withV _ (sAny (AL.look f) o m) ⟨fun R => @Later ⟨∀ v m', R v m' → c.k v m'⟩⟩
def sGuard (all : List Oper) (o : Oper) (f : AL) [y : Box (Unit → Prop)] [n : Box (Nat → Prop)] : Prop := match o.guard with
  | none => y.k ()
  | some (j, w) => match all[j]? with
    | some p => match p.dst with
      | some t => match AL.get f t with
        | some (.bool b) => if Region.wanted o (fun _ => some b) = true then y.k () else n.k 0
        | some (.tuple _) => if Region.wanted o (fun _ => none) = true then y.k () else n.k 0
        | _ => False
      | none => False
    | none => False
theorem sGuard_spec {all : List Oper} {o : Oper} {f : AL} {y n : Prop} (h : @sGuard all o f ⟨fun _ => y⟩ ⟨fun _ => n⟩) {k : Nat} {a : List Value} (ha : Knows k f a) : (Region.wanted o (aYielded all a) = true ∧ y) ∨ (Region.wanted o (aYielded all a) = false ∧ n) := by
  unfold sGuard at h
  split at h
  · rename_i hg
    left
    exact ⟨by unfold Region.wanted; rw [hg], h⟩
  · rename_i j w hg
    have key : ∀ r : Option Bool, aYielded all a j = r → Region.wanted o (aYielded all a) = Region.wanted o fun _ => r := fun r hr =>
      wanted_congr o fun i b hi => by rw [hg] at hi; cases hi; exact hr
    split at h <;> first | exact h.elim | skip
    rename_i p hp
    split at h <;> first | exact h.elim | skip
    rename_i t ht
    split at h <;> first | exact h.elim | skip
    · rename_i b hb
      rw [key (some b) (by simp only [aYielded, hp, ht, ha.2 t _ hb])]
      split at h
      · rename_i hw; exact .inl ⟨hw, h⟩
      · rename_i hw; exact .inr ⟨by simpa using hw, h⟩
    · rename_i cs hb
      rw [key none (by simp only [aYielded, hp, ht, ha.2 t _ hb])]
      split at h
      · rename_i hw; exact .inl ⟨hw, h⟩
      · rename_i hw; exact .inr ⟨by simpa using hw, h⟩
def sWant (all : List Oper) (o : Oper) (f : AL) : Option Bool := match o.guard with
  | none => some true
  | some (j, w) => match all[j]? with
    | some p => match p.dst with
      | some t => match AL.get f t with
        | some (.bool b) => some (Region.wanted o fun _ => some b)
        | some (.tuple _) => some (Region.wanted o fun _ => none)
        | _ => none
      | none => none
    | none => none
theorem sWant_spec {all : List Oper} {o : Oper} {f : AL} {b : Bool} (h : sWant all o f = some b) {k : Nat} {a : List Value} (ha : Knows k f a) : Region.wanted o (aYielded all a) = b := by
  unfold sWant at h
  split at h
  · rename_i hg
    cases h
    unfold Region.wanted
    rw [hg]
  · rename_i j w hg
    have key : ∀ r : Option Bool, aYielded all a j = r → Region.wanted o (aYielded all a) = Region.wanted o fun _ => r := fun r hr =>
      wanted_congr o fun i b hi => by rw [hg] at hi; cases hi; exact hr
    split at h <;> first | (cases h; done) | skip
    rename_i p hp
    split at h <;> first | (cases h; done) | skip
    rename_i t ht
    split at h <;> first | (cases h; done) | skip
    · rename_i b hb
      cases h
      exact key (some b) (by simp only [aYielded, hp, ht, ha.2 t _ hb])
    · rename_i cs hb
      cases h
      exact key none (by simp only [aYielded, hp, ht, ha.2 t _ hb])
def sFun (P : Program) (o : Op) (f : AL) (m : Mem) : Option (Value × Mem) := match kind P o with
  | .val => match sVal P (AL.look f) m.get o with
    | some v => some (v, m)
    | none => none
  | .new => match sNew P (AL.look f) m.size o with
    | some p => some (p.1, m.push p.2)
    | none => none
  | .mem => sMem P (AL.look f) m o
  | .fn => none
  | .any => none
theorem sFun_spec {P : Program} {o : Op} {f : AL} {m m' : Mem} {v : Value} (h : sFun P o f m = some (v, m')) {k : Nat} {a : List Value} (ha : Knows k f a) : evOp P o a m = some (v, m') := by
  have hg := ha.look
  unfold sFun at h
  split at h
  · split at h <;> first | (cases h; done) | skip
    rename_i u hu
    cases h
    exact sVal_spec hg (fun _ _ h => h) hu
  · split at h <;> first | (cases h; done) | skip
    rename_i p hp
    cases h
    exact (sNew_spec hg hp).1
  · exact sMem_spec hg h
  · cases h
  · cases h
def sGuarded (w : Option Bool) (x : Option (Value × Mem)) (m : Mem) : Option (Value × Mem) := match w with
  | some true => x
  | some false => some (undef, m)
  | none => none
def isFn : Kind → Bool
  | .fn => true
  | .any => true
  | _ => false
def sOne (P : Program) (n : Nat) (all : List Oper) (o : Oper) (f : AL) (m : Mem) [c : Box (AL → Mem → Prop)] : Prop := match o.guard with
  | none => @sOp P o.op f m ⟨fun v m' => @sPut n o.dst v f ⟨fun f' => c.k f' m'⟩⟩
  | some _ => match isFn (kind P o.op) with
    | false => @withV _ (sGuarded (sWant all o f) (sFun P o.op f m) m) ⟨fun p => @sPut n o.dst p.1 f ⟨fun f' => c.k f' p.2⟩⟩
    | true => @sGuard all o f ⟨fun _ => @sOp P o.op f m ⟨fun v m' => @sPut n o.dst v f ⟨fun f' => c.k f' m'⟩⟩⟩ ⟨fun _ => @sPut n o.dst undef f ⟨fun f' => c.k f' m⟩⟩
def sOpsB (P : Program) (n : Nat) (all : List Oper) [K : Box (AL → Mem → Prop)] : List Oper → AL → Mem → Prop
  | [], f, m => K.k f m
  | o :: r, f, m => @sOne P n all o f m ⟨sOpsB P n all r⟩
def sOps (P : Program) (n : Nat) (all : List Oper) (K : AL → Mem → Prop) (l : List Oper) (f : AL) (m : Mem) : Prop := @sOpsB P n all ⟨K⟩ l f m
theorem sOp_run {P : Program} {n : Nat} {all : List Oper} {o : Oper} {f : AL} {m : Mem} {a : List Value} {Q : List Value → Mem → Prop} {r : List Oper} (ha : Knows n f a) (hw : Region.wanted o (aYielded all a) = true) {next : AL → Mem → Prop}
    (h : @sOp P o.op f m ⟨fun v m' => @sPut n o.dst v f ⟨fun f' => next f' m'⟩⟩) (hn : ∀ f' m' a', Knows n f' a' → next f' m' → aOps P all Q r a' m') : aOps P all Q (o :: r) a m := by
  simp only [aOps]
  rw [if_pos hw]
  have hg := ha.look
  unfold sOp at h
  split at h
  · obtain ⟨v, h1, h2⟩ := withV_spec h
    obtain ⟨f', h3, h4⟩ := sPut_spec h2 ha
    exact .inl ⟨v, m, sVal_spec hg (fun _ _ h => h) h1, hn f' m _ h3 h4⟩
  · obtain ⟨⟨v, b⟩, h1, h2⟩ := withV_spec h
    obtain ⟨f', h3, h4⟩ := sPut_spec h2 ha
    exact .inl ⟨v, _, (sNew_spec hg h1).1, hn f' _ _ h3 h4⟩
  · obtain ⟨⟨v, m1⟩, h1, h2⟩ := withV_spec h
    obtain ⟨f', h3, h4⟩ := sPut_spec h2 ha
    exact .inl ⟨v, m1, sMem_spec hg h1, hn f' _ _ h3 h4⟩
  · obtain ⟨⟨k, xs⟩, h1, he, R, hsp, h2⟩ := withV_spec h
    rw [sCallee_eq] at h1
    refine .inr (.inl ⟨k, xs, R, fCallee_spec hg h1, he, hsp, fun v m' hR => ?_⟩)
    obtain ⟨f', h3, h4⟩ := sPut_spec (h2 v m' hR) ha
    exact hn f' _ _ h3 h4
  · obtain ⟨R, h1, h2⟩ := withV_spec h
    refine .inr (.inr ⟨R, sAny_spec hg h1, fun v m' hR => ?_⟩)
    obtain ⟨f', h3, h4⟩ := sPut_spec (h2 v m' hR) ha
    exact hn f' _ _ h3 h4
theorem sOps_run {P : Program} {n : Nat} {all : List Oper} {K : AL → Mem → Prop} {Q : List Value → Mem → Prop} (hK : ∀ f m a, Knows n f a → K f m → Q a m) : ∀ (l : List Oper) (f : AL) (m : Mem) (a : List Value), Knows n f a → sOps P n all K l f m → aOps P all Q l a m
  | [], f, m, a, ha, h => hK f m a ha h
  | o :: r, f, m, a, ha, h => by
    have next : ∀ f' m' a', Knows n f' a' → sOps P n all K r f' m' → aOps P all Q r a' m' := fun f' m' a' h1 h2 => sOps_run hK r f' m' a' h1 h2
    simp only [sOps, sOpsB, sOne] at h
    have skip : Region.wanted o (aYielded all a) = false → (@sPut n o.dst undef f ⟨fun f' => sOps P n all K r f' m⟩) → aOps P all Q (o :: r) a m := fun hw h => by
      simp only [aOps]
      rw [if_neg (by rw [hw]; simp)]
      obtain ⟨f', h3, h4⟩ := sPut_spec h ha
      exact next f' _ _ h3 h4
    split at h
    · rename_i hg
      exact sOp_run ha (by unfold Region.wanted; rw [hg]) h next
    · split at h
      · obtain ⟨⟨v, m'⟩, h1, h2⟩ := withV_spec h
        unfold sGuarded at h1
        split at h1
        · rename_i hw
          obtain ⟨f', h3, h4⟩ := sPut_spec h2 ha
          simp only [aOps]
          rw [if_pos (sWant_spec hw ha)]
          exact .inl ⟨v, m', sFun_spec h1 ha, next f' _ _ h3 h4⟩
        · rename_i hw
          cases h1
          exact skip (sWant_spec hw ha) h2
        · cases h1
      · rcases sGuard_spec h ha with ⟨hw, h⟩ | ⟨hw, h⟩
        · exact sOp_run ha hw h next
        · exact skip hw h
def SW (P : Program) (n : Nat) (c : Code) (Q : Exit → AL → Mem → Prop) (f : AL) (m : Mem) : Prop :=
  ∀ a, Knows n f a → AW P c (fun e a' m' => ∃ f', Knows n f' a' ∧ Q e f' m') a m
section
variable {P : Program} {n : Nat} {Q : Exit → AL → Mem → Prop} {f : AL} {m : Mem}
theorem SW_skip (h : Q .normal f m) : SW P n .skip Q f m := fun _ ha => AW_skip ⟨f, ha, h⟩
theorem SW_exit {i : Nat} (h : Q (.exit i) f m) : SW P n (.exit i) Q f m := fun _ ha => AW_exit ⟨f, ha, h⟩
theorem SW_ret (h : Q .ret f m) : SW P n .ret Q f m := fun _ ha => AW_ret ⟨f, ha, h⟩
def sThen (next : AL → Mem → Prop) (Q : Exit → AL → Mem → Prop) : Exit → AL → Mem → Prop
  | .normal, f, m => next f m
  | e, f, m => Q e f m
theorem SW_seq {x y : Code} (h : SW P n x (sThen (SW P n y Q) Q) f m) : SW P n (.seq x y) Q f m := fun a ha => by
  refine AW_seq ((h a ha).mono ?_)
  rintro e a' m' ⟨f', h1, h2⟩
  cases e with
  | normal => exact h2 a' h1
  | _ => exact ⟨f', h1, h2⟩
theorem SW_cond {c : Operand} {x y : Code} (t : Bool) (hc : AL.look f c = some (.bool t)) (ht : t = true → SW P n x Q f m) (hf : t = false → SW P n y Q f m) : SW P n (.cond c x y) Q f m :=
  fun a ha => AW_cond (ha.look c _ hc) (fun e => ht e a ha) (fun e => hf e a ha)
theorem SW_loop {c : Code} (I : Nat → AL → Mem → Prop) (k₀ : Nat) (h₀ : I k₀ f m) (round : ∀ k f m, I k f m → SW P n c (sThen (fun f' m' => ∃ k', I k' f' m' ∧ k' < k) Q) f m) : SW P n (.loop c) Q f m := fun a ha => by
  -- the number of rounds left, as the least that will do
  let J : Nat → List Value → Mem → Prop := fun k a m => ∃ f, Knows n f a ∧ I k f m
  have key : ∀ k a m, J k a m → AW P (.loop c) (fun e a' m' => ∃ f', Knows n f' a' ∧ Q e f' m') a m := by
    intro k a m hJ ι₀ m₀ w₀ ι act w hs ha hr
    have run : ∀ k a m, J k a m → ∀ (ι₀ : Nat → Loc) (m₀ : Mem) (w₀ : World) (ι : Nat → Loc) (act : Act) (w : World), Step ι₀ m₀ w₀ ι m w → ARel m.Has ι a act → Rel ι m w →
        Code.rounds P c (Post ι₀ m₀ w₀ fun e a' m' => ∃ f', Knows n f' a' ∧ Q e f' m') (k + 1) act w := by
      intro k
      induction k using Nat.strongRecOn with
      | _ k ih =>
        rintro a m ⟨f, hf, hI⟩ ι₀ m₀ w₀ ι act w hs ha hr
        refine wp_mono (round k f m hI a hf ι₀ m₀ w₀ ι act w hs ha hr) ?_
        rintro e act2 w2 ⟨κ, a2, m2, ⟨f2, hf2, hq2⟩, ha2, hr2, hs2⟩
        cases e with
        | normal =>
          obtain ⟨k', hI', hlt⟩ := hq2
          have := ih k' hlt a2 m2 ⟨f2, hf2, hI'⟩ ι₀ m₀ w₀ κ act2 w2 hs2 ha2 hr2
          exact rounds_le this (by omega)
        | _ => exact ⟨κ, a2, m2, ⟨f2, hf2, hq2⟩, ha2, hr2, hs2⟩
    exact wp_loop_rounds (k + 1) (run k a m hJ ι₀ m₀ w₀ ι act w hs ha hr)
  exact key k₀ a m ⟨f, ha, h₀⟩
where
  rounds_le {c : Code} {Q : Exit → Act → World → Prop} : ∀ {j k : Nat} {a : Act} {w : World}, Code.rounds P c Q j a w → j ≤ k → Code.rounds P c Q k a w
  | 0, _, _, _, h, _ => h.elim
  | j + 1, 0, _, _, _, h => by omega
  | j + 1, k + 1, a, w, h, hle => wp_mono h fun e a' w' hq => by
    cases e with
    | normal => exact rounds_le hq (by omega)
    | _ => exact hq
theorem SW_region {id : Nat} {ops : Array Oper} (h : sOps P n ops.toList (Q .normal) ops.toList f m) : SW P n (.region id ops false) Q f m :=
  fun a ha => AW_region (sOps_run (fun f m a h1 h2 => ⟨f, h1, h2⟩) _ f m a ha h)
end
end
end Go.Proofs.YtfdijpacbhomjaaGreatDoor.Abs
namespace Go.Proofs.YtfdijpacbhomjaaGreatDoor.Abs
open Go Go.RowKit
section
variable [Defs]
def isVal : Kind → Bool
  | .val => true
  | _ => false
def sGuardedV (w : Option Bool) (x : Option Value) : Option Value := match w with
  | some true => x
  | some false => some undef
  | none => none
def sHOpG (P : Program) (n : Nat) (m0 : Mem) (al : Bool) (o : Oper) (f : AL) (M : Mem) [c : Box (Bool → AL → Mem → Prop)] : Prop := match kind P o.op with
  | .val => @withV _ (sVal P (AL.look f) m0.get o.op) ⟨fun v => @sPut n o.dst v f ⟨fun f' => c.k al f' M⟩⟩
  | .new => @withV _ (sNew P (AL.look f) M.size o.op) ⟨fun p => @sPut n o.dst p.1 f ⟨fun f' => c.k true f' (M.push p.2)⟩⟩
  | .mem => False
  | .fn => al = false ∧ @withV _ (sCallee (AL.look f) o.op) ⟨fun p => entered P p.1 = true ∧ @Later ⟨∃ v N, Spec P p.1 p.2 m0 (fun u m' => u = v ∧ m' = m0.app N) ∧ N.all ownB = true ∧ @sPut n o.dst v f ⟨fun f' => c.k (!N.isEmpty) f' (M.app N)⟩⟩⟩
  | .any => False
def sHOneG (P : Program) (n : Nat) (all : List Oper) (m0 : Mem) (al : Bool) (o : Oper) (f : AL) (M : Mem) [c : Box (Bool → AL → Mem → Prop)] : Prop := match o.guard with
  | none => @sHOpG P n m0 al o f M c
  | some _ => match isVal (kind P o.op) with
    | true => @withV _ (sGuardedV (sWant all o f) (sVal P (AL.look f) m0.get o.op)) ⟨fun v => @sPut n o.dst v f ⟨fun f' => c.k al f' M⟩⟩
    | false => @sGuard all o f ⟨fun _ => @sHOpG P n m0 al o f M c⟩ ⟨fun _ => @sPut n o.dst undef f ⟨fun f' => c.k al f' M⟩⟩
def sHeadGB (P : Program) (n : Nat) (all : List Oper) (m0 : Mem) [K : Box (AL → Mem → Prop)] : List Oper → Bool → AL → Mem → Prop
  | [], _, f, M => K.k f M
  | o :: r, al, f, M => @sHOneG P n all m0 al o f M ⟨sHeadGB P n all m0 r⟩
def sHeadG (P : Program) (n : Nat) (all : List Oper) (m0 : Mem) (K : AL → Mem → Prop) (al : Bool) (l : List Oper) (f : AL) (M : Mem) : Prop := @sHeadGB P n all m0 ⟨K⟩ l al f M
def sHOp (P : Program) (n : Nat) (m0 : Mem) (al : Bool) (o : Oper) (f : AL) (M : Mem) [c : Box (Bool → AL → Mem → Prop)] : Prop := match kind P o.op with
  | .val => @withV _ (sVal P (AL.look f) m0.get o.op) ⟨fun v => @sPut n o.dst v f ⟨fun f' => c.k al f' M⟩⟩
  | .new => @withV _ (sNew P (AL.look f) M.size o.op) ⟨fun p => @sPut n o.dst p.1 f ⟨fun f' => c.k true f' (M.push p.2)⟩⟩
  | .mem => False
  | .fn => al = false ∧ @withV _ (sCallee (AL.look f) o.op) ⟨fun p => entered P p.1 = true ∧ @Later ⟨∃ v, Spec P p.1 p.2 m0 (fun u m' => u = v ∧ m' = m0) ∧ @sPut n o.dst v f ⟨fun f' => c.k al f' M⟩⟩⟩
  | .any => False
def sHOne (P : Program) (n : Nat) (all : List Oper) (m0 : Mem) (al : Bool) (o : Oper) (f : AL) (M : Mem) [c : Box (Bool → AL → Mem → Prop)] : Prop := match o.guard with
  | none => @sHOp P n m0 al o f M c
  | some _ => match isVal (kind P o.op) with
    | true => @withV _ (sGuardedV (sWant all o f) (sVal P (AL.look f) m0.get o.op)) ⟨fun v => @sPut n o.dst v f ⟨fun f' => c.k al f' M⟩⟩
    | false => @sGuard all o f ⟨fun _ => @sHOp P n m0 al o f M c⟩ ⟨fun _ => @sPut n o.dst undef f ⟨fun f' => c.k al f' M⟩⟩
def sHeadB (P : Program) (n : Nat) (all : List Oper) (m0 : Mem) [K : Box (AL → Mem → Prop)] : List Oper → Bool → AL → Mem → Prop
  | [], _, f, M => K.k f M
  | o :: r, al, f, M => @sHOne P n all m0 al o f M ⟨sHeadB P n all m0 r⟩
def sHead (P : Program) (n : Nat) (all : List Oper) (m0 : Mem) (K : AL → Mem → Prop) (al : Bool) (l : List Oper) (f : AL) (M : Mem) : Prop := @sHeadB P n all m0 ⟨K⟩ l al f M
theorem sHead_runG (b : Nat) (V0 : Nat → Value) (N0 : Nat → List (Option Blk)) {P : Program} {n : Nat} {ops : Array Oper} {m₀ : Mem} {a₀ : List Value} {q : Nat} {K : AL → Mem → Prop} (hq : headOK ops q = true) (hqs : q ≤ ops.size) :
    ∀ (l : List Oper) (k : Nat) (vs : List Value) (Ns : List (List (Option Blk))) (al : Bool) (f : AL) (M : Mem), (∀ j, l[j]? = if k + j < q then ops[k + j]? else none) → k ≤ q → vs.length = k → Ns.length = k →
      Knows n f (frameAt ops (getV vs) allS a₀ k) → M = memAt m₀ (getN Ns) allS k → (al = false → ∀ j, getN Ns j = []) → (∀ j, j < k → (getN Ns j).all ownB = true) →
      (∀ i o, b ≤ i → i < k → ops[i]? = some o → DOp P ops a₀ m₀ (getV vs) (getN Ns) i o) → (∀ i o, b ≤ i → i < k → ops[i]? = some o → kind P o.op = .val → o.guard = none → evOp P o.op (frB ops a₀ (getV vs) i) (memB ops m₀ (getN Ns) i) = some (getV vs i, memB ops m₀ (getN Ns) i) ∧ getN Ns i = []) → b ≤ k → (∀ j, j < b → getV vs j = V0 j ∧ getN Ns j = N0 j) → sHeadG P n ops.toList m₀ K al l f M →
      ∃ vs' Ns' f', Knows n f' (frameAt ops (getV vs') allS a₀ q) ∧ K f' (memAt m₀ (getN Ns') allS q) ∧ (∀ j, j < q → (getN Ns' j).all ownB = true) ∧ (∀ i o, b ≤ i → i < q → ops[i]? = some o → DOp P ops a₀ m₀ (getV vs') (getN Ns') i o) ∧ (∀ i o, b ≤ i → i < q → ops[i]? = some o → kind P o.op = .val → o.guard = none → evOp P o.op (frB ops a₀ (getV vs') i) (memB ops m₀ (getN Ns') i) = some (getV vs' i, memB ops m₀ (getN Ns') i) ∧ getN Ns' i = []) ∧ (∀ j, j < b → getV vs' j = V0 j ∧ getN Ns' j = N0 j) := by
  have hq0 := hq
  simp only [headOK, Bool.and_eq_true] at hq
  obtain ⟨⟨hsel, hback⟩, hap⟩ := hq
  intro l
  induction l with
  | nil =>
    intro k vs Ns al f M hl hkq hvs hNs hf hm hal hown hd hst hbk hkeep h
    have hk : k = q := by
      have h0 := hl 0
      rcases Nat.lt_or_ge k q with h1 | h1
      · rw [if_pos (by omega), Nat.add_zero, Array.getElem?_eq_getElem (show k < ops.size by omega)] at h0
        cases h0
      · omega
    subst hk
    exact ⟨vs, Ns, f, hf, by rw [← hm]; exact h, hown, hd, hst, hkeep⟩
  | cons o l ih =>
    intro k vs Ns al f M hl hkq hvs hNs hf hm hal hown hd hst hbk hkeep h
    have hk : k < q ∧ ops[k]? = some o := by
      have h0 := hl 0
      rcases Nat.lt_or_ge k q with h1 | h1
      · rw [if_pos (by omega), Nat.add_zero] at h0
        exact ⟨h1, by simpa using h0.symm⟩
      · rw [if_neg (by omega)] at h0; cases h0
    obtain ⟨hkq', hko⟩ := hk
    obtain ⟨a, ha⟩ : ∃ a, a = frameAt ops (getV vs) allS a₀ k := ⟨_, rfl⟩
    rw [← ha] at hf
    have hslot : ∀ t, t ∈ o.looksAt ops → (frB ops a₀ (getV vs) k)[t]? = a[t]? := fun t ht => by rw [ha]; exact slot_all hap hkq' hqs hko ht
    have hev : ∀ x ∈ o.op.operands, aEval (frB ops a₀ (getV vs) k) x = aEval a x := by
      intro x hx
      cases x with
      | tmp t =>
        simp only [aEval]
        refine hslot t ?_
        simp only [Oper.looksAt, List.mem_append, List.mem_filterMap]
        exact .inl ⟨.tmp t, by simpa using hx, rfl⟩
      | _ => rfl
    have hwant : Region.wanted o (aYielded ops.toList (frB ops a₀ (getV vs) k)) = Region.wanted o (aYielded ops.toList a) := by
      refine wanted_congr o fun g b hg => ?_
      unfold aYielded
      simp only [Array.getElem?_toList]
      cases hog : ops[g]? with
      | none => rfl
      | some og =>
        cases hdg : og.dst with
        | none => simp [hdg]
        | some t =>
          simp only [hdg]
          rw [hslot t (by simp [Oper.looksAt, hg, hog, hdg])]
    have next : ∀ (v : Value) (N : List (Option Blk)) (al' : Bool) (f1 : AL), DOp P ops a₀ m₀ (getV (vs ++ [v])) (getN (Ns ++ [N])) k o → (kind P o.op = .val → o.guard = none → evOp P o.op (frB ops a₀ (getV (vs ++ [v])) k) (memB ops m₀ (getN (Ns ++ [N])) k) = some (v, memB ops m₀ (getN (Ns ++ [N])) k) ∧ N = []) → N.all ownB = true → Knows n f1 (aPut a o.dst v) → (al' = false → al = false ∧ N = []) →
        sHeadG P n ops.toList m₀ K al' l f1 (M.app N) →
        ∃ vs' Ns' f', Knows n f' (frameAt ops (getV vs') allS a₀ q) ∧ K f' (memAt m₀ (getN Ns') allS q) ∧ (∀ j, j < q → (getN Ns' j).all ownB = true) ∧ (∀ i o, b ≤ i → i < q → ops[i]? = some o → DOp P ops a₀ m₀ (getV vs') (getN Ns') i o) ∧ (∀ i o, b ≤ i → i < q → ops[i]? = some o → kind P o.op = .val → o.guard = none → evOp P o.op (frB ops a₀ (getV vs') i) (memB ops m₀ (getN Ns') i) = some (getV vs' i, memB ops m₀ (getN Ns') i) ∧ getN Ns' i = []) ∧ (∀ j, j < b → getV vs' j = V0 j ∧ getN Ns' j = N0 j) := by
      intro v N al' f1 hD hSt hNo hf1 hal' h
      have hlow : ∀ j, j < k → getV vs j = getV (vs ++ [v]) j := fun j hj => by rw [getV_append, if_pos (by omega)]
      have hlowN : ∀ j, j < k → getN Ns j = getN (Ns ++ [N]) j := fun j hj => by rw [getN_append, if_pos (by omega)]
      have gN : getN (Ns ++ [N]) k = N := by rw [getN_append, if_neg (by omega), if_pos (by omega)]
      have hmem : memAt m₀ (getN (Ns ++ [N])) allS k = memAt m₀ (getN Ns) allS k := by
        unfold memAt
        rw [newsAt_congrN k fun j hj => (hlowN j hj).symm]
      refine ih (k + 1) (vs ++ [v]) (Ns ++ [N]) al' f1 (M.app N) (fun j => ?_) (by omega) (by simp [hvs]) (by simp [hNs]) ?_ ?_ (fun he j => ?_) (fun j hj => ?_) (fun i oi hbi hi hoi => ?_) (fun i oi hbi hi hoi hsi hgi => ?_) (by omega) (fun j hj => by rw [← hlow j (by omega), ← hlowN j (by omega)]; exact hkeep j hj) h
      · have := hl (j + 1)
        rw [List.getElem?_cons_succ] at this
        rw [this, show k + (j + 1) = k + 1 + j by omega]
      · simp only [frameAt, allS, if_true, hko, Option.bind_some]
        rw [← frameAt_congr k hlow, getV_append, if_neg (by omega), if_pos (by omega)]
        rw [ha] at hf1
        exact hf1
      · rw [memAt_succ, hmem, gN, ← hm]
      · obtain ⟨h1, h2⟩ := hal' he
        rw [getN_append]
        split
        · exact hal h1 j
        · split
          · exact h2
          · rfl
      · by_cases e : j = k
        · subst e; rw [gN]; exact hNo
        · rw [← hlowN j (by omega)]; exact hown j (by omega)
      · by_cases e : i = k
        · subst e
          rw [hko] at hoi; cases hoi
          exact hD
        · exact DOp_congr (fun j hj => hlow j (by omega)) (fun j hj => hlowN j (by omega)) (hd i oi hbi (by omega) hoi)
      · by_cases e : i = k
        · subst e
          rw [hko] at hoi; cases hoi
          obtain ⟨h1, h2⟩ := hSt hsi hgi
          rw [gN, getV_append, if_neg (by omega), if_pos (by omega)]
          exact ⟨h1, h2⟩
        · obtain ⟨h1, h2⟩ := hst i oi hbi (by omega) hoi hsi hgi
          have e1 : frB ops a₀ (getV (vs ++ [v])) i = frB ops a₀ (getV vs) i := frameAt_congr i fun j hj => (hlow j (by omega)).symm
          have e2 : memB ops m₀ (getN (Ns ++ [N])) i = memB ops m₀ (getN Ns) i := by
            unfold memB memAt
            rw [newsAt_congrN i fun j hj => (hlowN j (by omega)).symm]
          rw [e1, e2, ← hlow i (by omega), ← hlowN i (by omega)]
          exact ⟨h1, h2⟩
    have gv : ∀ v, getV (vs ++ [v]) k = v := fun v => by rw [getV_append, if_neg (by omega), if_pos (by omega)]
    have gN : ∀ N, getN (Ns ++ [N]) k = N := fun N => by rw [getN_append, if_neg (by omega), if_pos (by omega)]
    have fv : ∀ v, frB ops a₀ (getV (vs ++ [v])) k = frB ops a₀ (getV vs) k := fun v => frameAt_congr k fun j hj => by rw [getV_append, if_pos (by omega)]
    have fN : ∀ N, memB ops m₀ (getN (Ns ++ [N])) k = memB ops m₀ (getN Ns) k := fun N => by
      unfold memB memAt
      rw [newsAt_congrN k fun j hj => by rw [getN_append, if_pos (by omega)]]
    have app0 : ∀ M : Mem, M.app [] = M := fun M => by simp [Mem.app]
    have hsame : (memB ops m₀ (getN Ns) k).size = M.size := by
      rw [hm]
      unfold memB memAt Mem.size
      simp only [List.length_append]
      rw [newsAt_length (getN Ns) (B ops k) allS k]
    have hg := hf.look
    have hsub : ∀ b x, m₀.get b = some x → (memB ops m₀ (getN Ns) k).get b = some x := fun b x hx => (memAt_get _ _ _ _).2 (.inl ⟨Mem.get_lt hx, hx⟩)
    simp only [sHeadG, sHeadGB, sHOneG] at h
    have skip : Region.wanted o (aYielded ops.toList a) = false → (@sPut n o.dst undef f ⟨fun f' => sHeadG P n ops.toList m₀ K al l f' M⟩) → ∃ vs' Ns' f', Knows n f' (frameAt ops (getV vs') allS a₀ q) ∧ K f' (memAt m₀ (getN Ns') allS q) ∧ (∀ j, j < q → (getN Ns' j).all ownB = true) ∧ (∀ i o, b ≤ i → i < q → ops[i]? = some o → DOp P ops a₀ m₀ (getV vs') (getN Ns') i o) ∧ (∀ i o, b ≤ i → i < q → ops[i]? = some o → kind P o.op = .val → o.guard = none → evOp P o.op (frB ops a₀ (getV vs') i) (memB ops m₀ (getN Ns') i) = some (getV vs' i, memB ops m₀ (getN Ns') i) ∧ getN Ns' i = []) ∧ (∀ j, j < b → getV vs' j = V0 j ∧ getN Ns' j = N0 j) := fun hw h => by
      obtain ⟨f', h3, h4⟩ := sPut_spec h hf
      refine next undef [] al f' ?_ (fun _ hg => by rw [wanted_free hg] at hw; cases hw) rfl h3 (fun he => ⟨he, rfl⟩) (by rw [app0]; exact h4)
      unfold DOp
      rw [fv, gv, gN, hwant, if_neg (by rw [hw]; simp)]
      exact ⟨rfl, rfl⟩
    have val : ∀ v, Region.wanted o (aYielded ops.toList a) = true → sVal P (AL.look f) m₀.get o.op = some v → (@sPut n o.dst v f ⟨fun f' => sHeadG P n ops.toList m₀ K al l f' M⟩) → ∃ vs' Ns' f', Knows n f' (frameAt ops (getV vs') allS a₀ q) ∧ K f' (memAt m₀ (getN Ns') allS q) ∧ (∀ j, j < q → (getN Ns' j).all ownB = true) ∧ (∀ i o, b ≤ i → i < q → ops[i]? = some o → DOp P ops a₀ m₀ (getV vs') (getN Ns') i o) ∧ (∀ i o, b ≤ i → i < q → ops[i]? = some o → kind P o.op = .val → o.guard = none → evOp P o.op (frB ops a₀ (getV vs') i) (memB ops m₀ (getN Ns') i) = some (getV vs' i, memB ops m₀ (getN Ns') i) ∧ getN Ns' i = []) ∧ (∀ j, j < b → getV vs' j = V0 j ∧ getN Ns' j = N0 j) := fun v hw h1 h2 => by
      obtain ⟨f', h3, h4⟩ := sPut_spec h2 hf
      refine next v [] al f' ?_ (fun _ _ => ⟨by rw [fv, fN, evOp_congr P o.op _ hev]; exact sVal_spec (P := P) hg hsub h1, rfl⟩) rfl h3 (fun he => ⟨he, rfl⟩) (by rw [app0]; exact h4)
      have := sVal_spec (P := P) hg hsub h1
      unfold DOp memOf
      rw [fv, fN, gv, gN, hwant, if_pos hw, app0]
      exact ⟨OpSim.congr (OpSim.op this ⟨rfl, rfl⟩) hev, rfl⟩
    have run : Region.wanted o (aYielded ops.toList a) = true → @sHOpG P n m₀ al o f M ⟨fun al' f' M' => sHeadG P n ops.toList m₀ K al' l f' M'⟩ → ∃ vs' Ns' f', Knows n f' (frameAt ops (getV vs') allS a₀ q) ∧ K f' (memAt m₀ (getN Ns') allS q) ∧ (∀ j, j < q → (getN Ns' j).all ownB = true) ∧ (∀ i o, b ≤ i → i < q → ops[i]? = some o → DOp P ops a₀ m₀ (getV vs') (getN Ns') i o) ∧ (∀ i o, b ≤ i → i < q → ops[i]? = some o → kind P o.op = .val → o.guard = none → evOp P o.op (frB ops a₀ (getV vs') i) (memB ops m₀ (getN Ns') i) = some (getV vs' i, memB ops m₀ (getN Ns') i) ∧ getN Ns' i = []) ∧ (∀ j, j < b → getV vs' j = V0 j ∧ getN Ns' j = N0 j) := fun hw h => by
      unfold sHOpG at h
      split at h <;> rename_i hkd
      · obtain ⟨v, h1, h2⟩ := withV_spec h
        exact val v hw h1 h2
      · obtain ⟨⟨v, b⟩, h1, h2⟩ := withV_spec h
        obtain ⟨f', h3, h4⟩ := sPut_spec h2 hf
        rw [← hsame] at h1
        obtain ⟨h5, h6⟩ := sNew_spec (P := P) hg h1
        have e1 : ∀ M : Mem, M.push b = M.app [some b] := fun M => rfl
        refine next v [some b] true f' ?_ (fun hs _ => by rw [hs] at hkd; cases hkd) (by simp only [List.all_cons, h6, List.all_nil, Bool.and_self]) h3 (fun he => by cases he) (by rw [← e1]; exact h4)
        rw [e1] at h5
        unfold DOp memOf
        rw [fv, fN, gv, gN, hwant, if_pos hw]
        exact ⟨OpSim.congr (OpSim.op h5 ⟨rfl, rfl⟩) hev, by simp only [List.all_cons, h6, List.all_nil, Bool.and_self]⟩
      · exact h.elim
      · obtain ⟨hal0, h⟩ := h
        obtain ⟨⟨c, xs⟩, h1, he, v, N, hsp, hNo, h2⟩ := withV_spec h
        obtain ⟨f', h3, h4⟩ := sPut_spec h2 hf
        have hB : memB ops m₀ (getN Ns) k = m₀ := by
          have : ∀ i, newsAt (getN Ns) (B ops k) i = [] := by
            intro i
            induction i with
            | zero => rfl
            | succ i ih => simp [newsAt, ih, hal hal0]
          unfold memB memAt
          rw [this, List.append_nil]
        rw [sCallee_eq] at h1
        refine next v N (!N.isEmpty) f' ?_ (fun hs _ => by rw [hs] at hkd; cases hkd) hNo h3 (fun he => ⟨hal0, by cases N with | nil => rfl | cons => simp at he⟩) h4
        unfold DOp memOf
        rw [fv, fN, gv, gN, hwant, if_pos hw, hB]
        exact ⟨OpSim.congr (OpSim.call (fCallee_spec hg h1) he hsp) hev, hNo⟩
      · exact h.elim
    split at h
    · rename_i hgd
      exact run (by unfold Region.wanted; rw [hgd]) h
    · split at h
      · obtain ⟨v, h1, h2⟩ := withV_spec h
        unfold sGuardedV at h1
        split at h1
        · rename_i hw; exact val v (sWant_spec hw hf) h1 h2
        · rename_i hw; cases h1; exact skip (sWant_spec hw hf) h2
        · cases h1
      · rcases sGuard_spec h hf with ⟨hw, h⟩ | ⟨hw, h⟩
        · exact run hw h
        · exact skip hw h
theorem sPut_mono {n : Nat} {d : Option Nat} {v : Value} {f : AL} {k k' : AL → Prop} (h : ∀ f, k f → k' f) (g : @sPut n d v f ⟨k⟩) : @sPut n d v f ⟨k'⟩ := by
  cases d with
  | none => exact h _ g
  | some t => exact ⟨g.1, h _ g.2⟩
theorem withV_mono {α : Type} {o : Option α} {k k' : α → Prop} (h : ∀ v, k v → k' v) (g : @withV α o ⟨k⟩) : @withV α o ⟨k'⟩ := by
  cases o with
  | none => exact g
  | some v => exact h v g
theorem sGuard_mono {all : List Oper} {o : Oper} {f : AL} {y n y' n' : Prop} (hy : y → y') (hn : n → n') (h : @sGuard all o f ⟨fun _ => y⟩ ⟨fun _ => n⟩) : @sGuard all o f ⟨fun _ => y'⟩ ⟨fun _ => n'⟩ := by
  unfold sGuard at h ⊢
  split at h
  · exact hy h
  · split at h <;> first | exact h.elim | skip
    split at h <;> first | exact h.elim | skip
    split at h <;> first | exact h.elim | skip
    all_goals
      split at h
      · rename_i e; simp only [*] <;> exact hy h
      · rename_i e; simp only [*] <;> exact hn h
theorem sHOp_G {P : Program} {n : Nat} {m0 : Mem} {al : Bool} {o : Oper} {f : AL} {M : Mem} {c c' : Bool → AL → Mem → Prop} (hc : ∀ al f M, c al f M → c' al f M) (h : @sHOp P n m0 al o f M ⟨c⟩) : @sHOpG P n m0 al o f M ⟨c'⟩ := by
  unfold sHOp at h
  unfold sHOpG
  cases hk : kind P o.op <;> rw [hk] at h <;> simp only at h ⊢
  case val => exact withV_mono (fun v => sPut_mono fun f => hc _ f _) h
  case new => exact withV_mono (fun v => sPut_mono fun f => hc _ f _) h
  case fn =>
    obtain ⟨rfl, h⟩ := h
    refine ⟨rfl, withV_mono (fun p ⟨he, v, hs, hp⟩ => ⟨he, v, [], ?_, rfl, sPut_mono (fun f hf => ?_) hp⟩) h⟩
    · rw [show m0.app [] = m0 by simp [Mem.app]]; exact hs
    · rw [show M.app [] = M by simp [Mem.app]]; exact hc _ f _ hf
theorem sHead_G {P : Program} {n : Nat} {all : List Oper} {m0 : Mem} {K : AL → Mem → Prop} : ∀ (l : List Oper) (al : Bool) (f : AL) (M : Mem), sHead P n all m0 K al l f M → sHeadG P n all m0 K al l f M
  | [], _, _, _, h => h
  | o :: r, al, f, M, h => by
    have ih := fun al f M => sHead_G (P := P) (n := n) (all := all) (m0 := m0) (K := K) r al f M
    simp only [sHead, sHeadB, sHOne] at h
    simp only [sHeadG, sHeadGB, sHOneG]
    cases hg : o.guard with
    | none => rw [hg] at h; exact sHOp_G ih h
    | some q =>
      rw [hg] at h
      simp only at h ⊢
      cases hv : isVal (kind P o.op) with
      | true => rw [hv] at h; exact withV_mono (fun v => sPut_mono fun f => ih _ f _) h
      | false => rw [hv] at h; exact sGuard_mono (sHOp_G ih) (sPut_mono fun f => ih _ f _) h
theorem sHead_run (b : Nat) (V0 : Nat → Value) (N0 : Nat → List (Option Blk)) {P : Program} {n : Nat} {ops : Array Oper} {m₀ : Mem} {a₀ : List Value} {q : Nat} {K : AL → Mem → Prop} (hq : headOK ops q = true) (hqs : q ≤ ops.size) :
    ∀ (l : List Oper) (k : Nat) (vs : List Value) (Ns : List (List (Option Blk))) (al : Bool) (f : AL) (M : Mem), (∀ j, l[j]? = if k + j < q then ops[k + j]? else none) → k ≤ q → vs.length = k → Ns.length = k →
      Knows n f (frameAt ops (getV vs) allS a₀ k) → M = memAt m₀ (getN Ns) allS k → (al = false → ∀ j, getN Ns j = []) → (∀ j, j < k → (getN Ns j).all ownB = true) →
      (∀ i o, b ≤ i → i < k → ops[i]? = some o → DOp P ops a₀ m₀ (getV vs) (getN Ns) i o) → (∀ i o, b ≤ i → i < k → ops[i]? = some o → kind P o.op = .val → o.guard = none → evOp P o.op (frB ops a₀ (getV vs) i) (memB ops m₀ (getN Ns) i) = some (getV vs i, memB ops m₀ (getN Ns) i) ∧ getN Ns i = []) → b ≤ k → (∀ j, j < b → getV vs j = V0 j ∧ getN Ns j = N0 j) → sHead P n ops.toList m₀ K al l f M →
      ∃ vs' Ns' f', Knows n f' (frameAt ops (getV vs') allS a₀ q) ∧ K f' (memAt m₀ (getN Ns') allS q) ∧ (∀ j, j < q → (getN Ns' j).all ownB = true) ∧ (∀ i o, b ≤ i → i < q → ops[i]? = some o → DOp P ops a₀ m₀ (getV vs') (getN Ns') i o) ∧ (∀ i o, b ≤ i → i < q → ops[i]? = some o → kind P o.op = .val → o.guard = none → evOp P o.op (frB ops a₀ (getV vs') i) (memB ops m₀ (getN Ns') i) = some (getV vs' i, memB ops m₀ (getN Ns') i) ∧ getN Ns' i = []) ∧ (∀ j, j < b → getV vs' j = V0 j ∧ getN Ns' j = N0 j) := fun l k vs Ns al f M g1 g2 g3 g4 g5 g6 g7 g8 g9 g10 g11 g12 h => sHead_runG b V0 N0 hq hqs l k vs Ns al f M g1 g2 g3 g4 g5 g6 g7 g8 g9 g10 g11 g12 (sHead_G l al f M h)
theorem SW_draw {P : Program} {n : Nat} {Q : Exit → AL → Mem → Prop} {f : AL} {m : Mem} {id : Nat} {ops : Array Oper} (hmix : P.follows .mixedOrders = true) (q : Nat) (hq : drawOK ops q = true) (hqs : Nat.ble q ops.size = true)
    (h : sHead P n ops.toList m (fun f' M => sOps P n ops.toList (Q .normal) (ops.toList.drop q) f' M) false (ops.toList.take q) f m) : SW P n (.region id ops true) Q f m := by
  intro a ha
  have hqs := Nat.le_of_ble_eq_true hqs
  obtain ⟨vs, Ns, f', h1, h2, h3, h4, _⟩ := sHead_run 0 (fun _ => undef) (fun _ => []) (a₀ := a) (m₀ := m) (drawOK_head hq) hqs (ops.toList.take q) 0 [] [] false f m (fun j => by rw [List.getElem?_take, Array.getElem?_toList, Nat.zero_add]) (by omega) rfl rfl ha (by simp [memAt, newsAt])
    (fun _ j => by simp [getN]) (fun j hj => by omega) (fun i o _ hi => by omega) (fun i o _ hi => by omega) (Nat.le_refl _) (fun j hj => by omega) h
  exact AW_draw hmix q hq hqs (getV vs) (getN Ns) (fun i o hi ho => h4 i o (Nat.zero_le _) hi ho) (sOps_run (fun f m a h1 h2 => ⟨f, h1, h2⟩) _ f' _ _ h1 h2)
def idleOK (P : Program) (all : List Oper) (f : AL) (m0 m' : Mem) : List Nat → Prop
  | [] => True
  | j :: r => (∃ x, (all[j]?).bind (fun o => sVal P (AL.look f) m0.get o.op) = some x ∧ (all[j]?).bind (fun o => sVal P (AL.look f) m'.get o.op) = some x) ∧ idleOK P all f m0 m' r
theorem idleOK_spec {P : Program} {all : List Oper} {f : AL} {m0 m' : Mem} : ∀ {J : List Nat}, idleOK P all f m0 m' J → ∀ j, J.contains j = true → ∀ o, all[j]? = some o → ∃ x, sVal P (AL.look f) m0.get o.op = some x ∧ sVal P (AL.look f) m'.get o.op = some x
  | [], _, j, hj, _, _ => by simp at hj
  | k :: r, h, j, hj, o, ho => by
    obtain ⟨⟨x, h1, h2⟩, h3⟩ := h
    by_cases e : j = k
    · subst e
      rw [ho] at h1 h2
      exact ⟨x, h1, h2⟩
    · refine idleOK_spec h3 j ?_ o ho
      simpa [e] using hj
def drawOK4 (P : Program) (ops : Array Oper) (q : Nat) (J : List Nat) : Bool :=
  drawOK ops (q + 1) && Nat.blt q ops.size && (List.range q).all (fun j => B ops q j || (J.contains j && match ops[j]? with
    | some o => isVal (kind P o.op) && o.guard.isNone && (List.range q).all fun k => Nat.blt k j || match (ops[k]?).bind (·.dst) with
      | some t => !(o.looksAt ops).contains t
      | none => true
    | none => false)) && match ops[q]? with
    | some o => o.guard.isNone
    | none => false
theorem SW_draw4 {P : Program} {n : Nat} {Q : Exit → AL → Mem → Prop} {f : AL} {m : Mem} {id : Nat} {ops : Array Oper} (hmix : P.follows .mixedOrders = true) (q : Nat) (J : List Nat) (hq : drawOK4 P ops q J = true) {oq : Oper} (hoq : ops[q]? = some oq)
    (h : sHead P n ops.toList m (fun f' M => @withV _ (sMem P (AL.look f') M oq.op) ⟨fun p => idleOK P ops.toList f' m p.2 J ∧ @sPut n oq.dst p.1 f' ⟨fun f'' => sOps P n ops.toList (Q .normal) (ops.toList.drop (q + 1)) f'' p.2⟩⟩) false (ops.toList.take q) f m) : SW P n (.region id ops true) Q f m := by
  intro a ha
  simp only [drawOK4, Bool.and_eq_true] at hq
  obtain ⟨⟨⟨hq1, hqs⟩, hidle⟩, hgq⟩ := hq
  have hqs := Nat.le_of_ble_eq_true hqs
  rw [hoq] at hgq
  have hgq : oq.guard = none := by simpa using hgq
  obtain ⟨vs, Ns, f', h1, h2, h3, h4, h5, _⟩ := sHead_run 0 (fun _ => undef) (fun _ => []) (a₀ := a) (m₀ := m) (headOK_less (drawOK_head hq1)) (by omega) (ops.toList.take q) 0 [] [] false f m (fun j => by rw [List.getElem?_take, Array.getElem?_toList, Nat.zero_add]) (by omega) rfl rfl ha (by simp [memAt, newsAt])
    (fun _ j => by simp [getN]) (fun j hj => by omega) (fun i o _ hi => by omega) (fun i o _ hi => by omega) (Nat.le_refl _) (fun j hj => by omega) h
  obtain ⟨⟨vq, M'⟩, g1, g2, g3⟩ := withV_spec h2
  obtain ⟨f'', g4, g5⟩ := sPut_spec g3 h1
  have hap : apartAll ops (befM ops.toList) q = true := by
    have := headOK_less (drawOK_head hq1)
    simp only [headOK, Bool.and_eq_true] at this
    exact this.2
  refine AW_draw4 hmix q hq1 hqs hoq hgq (getV vs) (getN Ns) (fun i o hi ho => h4 i o (Nat.zero_le _) hi ho) (fun i o hi ho hb => ?_) (sMem_spec h1.look g1) (sOps_run (fun f m a h1 h2 => ⟨f, h1, h2⟩) _ f'' _ _ g4 g5)
  have hi2 := List.all_eq_true.1 hidle i (List.mem_range.2 hi)
  rw [hb, ho] at hi2
  simp only [Bool.false_or, Bool.and_eq_true, Option.isNone_iff_eq_none] at hi2
  obtain ⟨hJ, ⟨hk, hg⟩, hov⟩ := hi2
  have hkv : kind P o.op = .val := by cases hkk : kind P o.op <;> rw [hkk] at hk <;> first | rfl | cases hk
  obtain ⟨e1, e2⟩ := h5 i o (Nat.zero_le _) hi ho hkv hg
  obtain ⟨x, x1, x2⟩ := idleOK_spec g2 i hJ o (by simpa using ho)
  have hsl : ∀ t, t ∈ o.looksAt ops → (frB ops a (getV vs) i)[t]? = (frameAt ops (getV vs) allS a q)[t]? := fun t ht => by
    rw [slot_all hap hi (by omega) ho ht]
    have h1 : (frameAt ops (getV vs) allS a q)[t]? = (frameAt ops (getV vs) (fun k => decide (k < i)) a q)[t]? := frameAt_get t q fun k hk hdst => by
      by_cases hki : k < i
      · simp [allS, hki]
      · exfalso
        have := List.all_eq_true.1 hov k (List.mem_range.2 hk)
        rw [Bool.or_eq_true] at this
        rcases this with h2 | h2
        · have := Nat.le_of_ble_eq_true h2; omega
        · rw [hdst] at h2
          simp only [Bool.not_eq_true'] at h2
          have := List.contains_iff_mem.2 ht
          rw [this] at h2; cases h2
    rw [h1, frameAt_tail (i := i) q (by omega) (fun k h1 _ => by simp; omega)]
    exact frameAt_get t i fun k hk _ => by simp [allS, hk]
  have v1 : evOp P o.op (frB ops a (getV vs) i) (memB ops m (getN Ns) i) = some (x, memB ops m (getN Ns) i) := by
    rw [evOp_congr P o.op _ (ev_looks hsl)]
    exact sVal_spec (P := P) h1.look (fun b y hb => (memAt_get _ _ _ _).2 (.inl ⟨Mem.get_lt hb, hb⟩)) x1
  have v2 : evOp P o.op (frB ops a (getV vs) i) M' = some (x, M') := by
    rw [evOp_congr P o.op _ (ev_looks hsl)]
    exact sVal_spec (P := P) h1.look (fun _ _ h => h) x2
  rw [e1] at v1
  have hx : getV vs i = x := by injection v1 with v1; injection v1
  exact ⟨hg, by rw [hx]; exact v2, e2⟩
theorem SW_draw6 {P : Program} {n : Nat} {Q : Exit → AL → Mem → Prop} {f : AL} {m : Mem} {id : Nat} {ops : Array Oper} (hmix : P.follows .mixedOrders = true) (q : Nat) (J : List Nat) (hq : drawOK4 P ops q J = true) {oq : Oper} (hoq : ops[q]? = some oq)
    (h : sHead P n ops.toList m (fun f' M => @withV _ (sCallee (AL.look f') oq.op) ⟨fun p => entered P p.1 = true ∧ ∃ R, Spec P p.1 p.2 M R ∧ @Later ⟨∀ u M', R u M' → idleOK P ops.toList f' m M' J ∧ @sPut n oq.dst u f' ⟨fun f'' => sOps P n ops.toList (Q .normal) (ops.toList.drop (q + 1)) f'' M'⟩⟩⟩) false (ops.toList.take q) f m) : SW P n (.region id ops true) Q f m := by
  intro a ha
  simp only [drawOK4, Bool.and_eq_true] at hq
  obtain ⟨⟨⟨hq1, hqs⟩, hidle⟩, hgq⟩ := hq
  have hqs := Nat.le_of_ble_eq_true hqs
  rw [hoq] at hgq
  have hgq : oq.guard = none := by simpa using hgq
  obtain ⟨vs, Ns, f', h1, h2, h3, h4, h5, _⟩ := sHead_run 0 (fun _ => undef) (fun _ => []) (a₀ := a) (m₀ := m) (headOK_less (drawOK_head hq1)) (by omega) (ops.toList.take q) 0 [] [] false f m (fun j => by rw [List.getElem?_take, Array.getElem?_toList, Nat.zero_add]) (by omega) rfl rfl ha (by simp [memAt, newsAt])
    (fun _ j => by simp [getN]) (fun j hj => by omega) (fun i o _ hi => by omega) (fun i o _ hi => by omega) (Nat.le_refl _) (fun j hj => by omega) h
  obtain ⟨⟨c, xs⟩, g1, ge, R, gs, gR⟩ := withV_spec h2
  rw [sCallee_eq] at g1
  have hap : apartAll ops (befM ops.toList) q = true := by
    have := headOK_less (drawOK_head hq1)
    simp only [headOK, Bool.and_eq_true] at this
    exact this.2
  have look : ∀ i o, i < q → ops[i]? = some o → B ops q i = false → o.guard = none ∧ getN Ns i = [] ∧ ∀ M', idleOK P ops.toList f' m M' J → evOp P o.op (frB ops a (getV vs) i) M' = some (getV vs i, M') := fun i o hi ho hb => by
    have hi2 := List.all_eq_true.1 hidle i (List.mem_range.2 hi)
    rw [hb, ho] at hi2
    simp only [Bool.false_or, Bool.and_eq_true, Option.isNone_iff_eq_none] at hi2
    obtain ⟨hJ, ⟨hk, hg⟩, hov⟩ := hi2
    have hkv : kind P o.op = .val := by cases hkk : kind P o.op <;> rw [hkk] at hk <;> first | rfl | cases hk
    obtain ⟨e1, e2⟩ := h5 i o (Nat.zero_le _) hi ho hkv hg
    have hsl : ∀ t, t ∈ o.looksAt ops → (frB ops a (getV vs) i)[t]? = (frameAt ops (getV vs) allS a q)[t]? := fun t ht => by
      rw [slot_all hap hi (by omega) ho ht]
      have h1 : (frameAt ops (getV vs) allS a q)[t]? = (frameAt ops (getV vs) (fun k => decide (k < i)) a q)[t]? := frameAt_get t q fun k hk hdst => by
        by_cases hki : k < i
        · simp [allS, hki]
        · exfalso
          have := List.all_eq_true.1 hov k (List.mem_range.2 hk)
          rw [Bool.or_eq_true] at this
          rcases this with h2 | h2
          · have := Nat.le_of_ble_eq_true h2; omega
          · rw [hdst] at h2
            simp only [Bool.not_eq_true'] at h2
            have := List.contains_iff_mem.2 ht
            rw [this] at h2; cases h2
      rw [h1, frameAt_tail (i := i) q (by omega) (fun k h1 _ => by simp; omega)]
      exact frameAt_get t i fun k hk _ => by simp [allS, hk]
    refine ⟨hg, e2, fun M' g2 => ?_⟩
    obtain ⟨x, x1, x2⟩ := idleOK_spec g2 i hJ o (by simpa using ho)
    have v1 : evOp P o.op (frB ops a (getV vs) i) (memB ops m (getN Ns) i) = some (x, memB ops m (getN Ns) i) := by
      rw [evOp_congr P o.op _ (ev_looks hsl)]
      exact sVal_spec (P := P) h1.look (fun b y hb => (memAt_get _ _ _ _).2 (.inl ⟨Mem.get_lt hb, hb⟩)) x1
    have v2 : evOp P o.op (frB ops a (getV vs) i) M' = some (x, M') := by
      rw [evOp_congr P o.op _ (ev_looks hsl)]
      exact sVal_spec (P := P) h1.look (fun _ _ h => h) x2
    rw [e1] at v1
    have hx : getV vs i = x := by injection v1 with v1; injection v1
    rw [hx]; exact v2
  refine AW_draw6 hmix q hq1 hqs hoq hgq (getV vs) (getN Ns) (fun i o hi ho => h4 i o (Nat.zero_le _) hi ho) (fun i o hi ho hb => (look i o hi ho hb).2.1) (OpSim.call (fCallee_spec h1.look g1) ge gs) (fun u M' hR => ?_)
  obtain ⟨g2, g3⟩ := gR u M' hR
  obtain ⟨f'', g4, g5⟩ := sPut_spec g3 h1
  exact ⟨fun i o hi ho hb => .free (look i o hi ho hb).1 ((look i o hi ho hb).2.2 M' g2), sOps_run (fun f m a h1 h2 => ⟨f, h1, h2⟩) _ f'' _ _ g4 g5⟩
def alOf : Nat → List Value → AL
  | _, [] => []
  | i, v :: r => (i, v) :: alOf (i + 1) r
theorem alOf_get : ∀ (l : List Value) (i t : Nat) (v : Value), AL.get (alOf i l) t = some v → i ≤ t ∧ l[t - i]? = some v
  | [], i, t, v, h => by cases h
  | x :: r, i, t, v, h => by
    simp only [alOf, AL.get] at h
    split at h
    · rename_i e; subst e; cases h; exact ⟨Nat.le_refl _, by simp⟩
    · rename_i e
      obtain ⟨h1, h2⟩ := alOf_get r (i + 1) t v h
      exact ⟨by omega, by rw [show t - i = (t - (i + 1)) + 1 by omega]; exact h2⟩
def sResults (f : AL) : List ResultVar → Option (List Value)
  | [] => some []
  | .tmp t :: r => match AL.get f t with
    | some v => match sResults f r with
      | some l => some (v :: l)
      | none => none
    | none => none
  | .cell _ _ :: _ => none
def sAnswer (P : Program) (rs : List ResultVar) (f : AL) (m : Mem) : Option Value := match sRes P rs f m with
  | some [v] => some v
  | some l => some (.tuple l.toArray)
  | none => none
where sRes (P : Program) : List ResultVar → AL → Mem → Option (List Value)
  | [], _, _ => some []
  | .tmp t :: r, f, m => match AL.get f t with
    | some v => match sRes P r f m with
      | some l => some (v :: l)
      | none => none
    | none => none
  | .cell p t :: r, f, m => match AL.get f p with
    | some q => match aLoad P m t q with
      | some v => match sRes P r f m with
        | some l => some (v :: l)
        | none => none
      | none => none
    | none => none
theorem sRes_spec {P : Program} {n : Nat} {f : AL} {a : List Value} {m : Mem} (ha : Knows n f a) : ∀ (rs : List ResultVar) (l : List Value), sAnswer.sRes P rs f m = some l → aResults P a m rs = some l
  | [], l, h => h
  | .tmp t :: r, l, h => by
    unfold sAnswer.sRes at h
    split at h <;> first | (cases h; done) | skip
    rename_i v hv
    split at h <;> first | (cases h; done) | skip
    rename_i l' hl
    cases h
    simp only [aResults, aResult, ha.2 t v hv, sRes_spec ha r l' hl]
  | .cell p t :: r, l, h => by
    unfold sAnswer.sRes at h
    split at h <;> first | (cases h; done) | skip
    rename_i q hq
    split at h <;> first | (cases h; done) | skip
    rename_i v hv
    split at h <;> first | (cases h; done) | skip
    rename_i l' hl
    cases h
    simp only [aResults, aResult, ha.2 p q hq, hv, sRes_spec ha r l' hl]
def sEnd (P : Program) (rs : List ResultVar) (R : Value → Mem → Prop) : Exit → AL → Mem → Prop
  | .ret, f, m => @withV _ (sAnswer P rs f m) ⟨fun v => R v m⟩
  | .normal, f, m => @withV _ (sAnswer P rs f m) ⟨fun v => R v m⟩
  | _, _, _ => False
end
theorem Spec.walk {P : Program} {k : FuncId} {fn : Func} {c : Code} {xs : List Value} {m : Mem} {R : Value → Mem → Prop} (hf : P.funcs[k]? = some fn) (hb : fn.body = some c) (rs : Array ResultVar) (hr : fn.results = rs) (n : Nat) (hn : fn.ntmps = n) (hx : xs.length ≤ n)
    (h : SW P n c (sEnd P rs.toList R) (alOf 0 xs) m) : Spec P k xs m R := by
  subst hr; subst hn
  refine Spec.of hf hb ((h (aFrame fn xs) ⟨by simp [aFrame]; omega, fun t v hv => ?_⟩).mono ?_)
  · obtain ⟨_, h2⟩ := alOf_get xs 0 t v hv
    unfold aFrame
    rw [List.getElem?_append, if_pos]
    · exact h2
    · exact (List.getElem?_eq_some_iff.1 h2).1
  · rintro e a' m' ⟨f', h1, h2⟩
    have ans : ∀ v, sAnswer P fn.results.toList f' m' = some v → aAnswer P fn.results.toList a' m' = some v := fun v hv => by
      unfold sAnswer at hv
      unfold aAnswer
      split at hv <;> first | (cases hv; done) | skip
      · rename_i v0 hv0; cases hv; simp only [sRes_spec h1 _ _ hv0]
      · rename_i l hne hl
        cases hv
        simp only [sRes_spec h1 _ _ hl]
    cases e <;> simp only [sEnd] at h2 <;> first | exact h2.elim | skip
    all_goals
      obtain ⟨v, h3, h4⟩ := withV_spec h2
      exact ⟨by simp, v, ans v h3, h4⟩
theorem Spec.of_below {P : Program} {k : FuncId} {xs : List Value} {m : Mem} {v : Value} (hv : flat 3 v = true) (h : ∀ (ι : Nat → Loc) (w : World) (ys : List Value), VRels m.Has ι xs ys → Rel ι m w → Calls P k ys.toArray w fun e w' => e = .returned v ∧ Below w.heap.size w w') :
    Spec P k xs m fun u m' => u = v ∧ m' = m := by
  intro ι w ys hy hr
  refine (h ι w ys hy hr).mono ?_
  rintro e w' ⟨rfl, hb⟩
  refine ⟨v, v, ι, m, ⟨rfl, rfl⟩, rfl, flat_rel 3 v hv, hr.same hb.block, ⟨hb.os, hb.tape, hb.output, hb.size, fun b h => h, fun _ _ => rfl, fun g hg _ => hb.block g hg, fun b hb => .inr ⟨b, hb, rfl⟩⟩⟩
theorem flats_eq {n : Nat → Prop} {ι : Nat → Loc} {xs ys : List Value} (hx : ∀ x ∈ xs, flat 3 x = true) (h : VRels n ι xs ys) : ys = xs := by
  apply List.ext_getElem?
  intro i
  cases hxi : xs[i]? with
  | none =>
    rw [List.getElem?_eq_none_iff] at hxi ⊢
    have := h.1; omega
  | some x =>
    obtain ⟨y, hy, hr⟩ := h.get hxi
    rw [hy, flat_eq 3 x y (hx x (List.mem_of_getElem? hxi)) hr]
theorem Spec.of_flat {P : Program} {k : FuncId} {xs : List Value} {m : Mem} {v : Value} (hx : ∀ x ∈ xs, flat 3 x = true) (hv : flat 3 v = true) (h : ∀ w, Calls P k xs.toArray w fun e w' => e = .returned v ∧ Below w.heap.size w w') :
    Spec P k xs m fun u m' => u = v ∧ m' = m :=
  Spec.of_below hv fun ι w ys hy _ => by rw [flats_eq hx hy]; exact h w
theorem Calls.of_flat {P : Program} {k : FuncId} {xs : List Value} {R : Value → Mem → Prop} (hx : ∀ x ∈ xs, flat 3 x = true) (h : Spec P k xs ⟨[]⟩ R) (w : World) (hg : GlobK w := by trivial) :
    Calls P k xs.toArray w fun e w' => ∃ v v' κ m', R v m' ∧ e = .returned v' ∧ VRel m'.Has κ v v' ∧ Rel κ m' w' ∧ Below w.heap.size w w' := by
  refine (h (fun _ => ⟨0, 0, 0, 0⟩) w xs ⟨rfl, fun i x y h1 h2 => ?_⟩ ⟨fun b ro s cs hb => ?_, fun b x hb => ?_, fun b b' hb => ?_, ⟨hg, fun b ⟨y, hb, _⟩ => ?_⟩⟩).mono ?_
  · rw [h1] at h2; cases h2
    exact flat_rel 3 x (hx x (List.mem_of_getElem? h1))
  · have := Mem.get_lt hb; simp [Mem.size] at this
  · have := Mem.get_lt hb; simp [Mem.size] at this
  · obtain ⟨x, hx⟩ := Option.ne_none_iff_exists'.1 hb
    have := Mem.get_lt hx; simp [Mem.size] at this
  · have := Mem.get_lt hb; simp [Mem.size] at this
  · rintro e w' ⟨v, v', κ, m', hR, rfl, hv, hr, hs⟩
    refine ⟨v, v', κ, m', hR, rfl, hv, hr, hs.os, hs.tape, hs.output, hs.size, fun g hg => hs.block g hg fun b ⟨y, hb, _⟩ => ?_⟩
    have := Mem.get_lt hb; simp [Mem.size] at this
theorem Calls.of_flat_val {P : Program} {k : FuncId} {xs : List Value} {v : Value} (hx : ∀ x ∈ xs, flat 3 x = true) (hv : flat 3 v = true) (h : Spec P k xs ⟨[]⟩ fun u _ => u = v) (w : World) (hg : GlobK w := by trivial) :
    Calls P k xs.toArray w fun e w' => e = .returned v ∧ Below w.heap.size w w' := by
  refine (Calls.of_flat hx h w hg).mono ?_
  rintro e w' ⟨u, v', κ, m', rfl, rfl, hr, _, hb⟩
  exact ⟨by rw [← flat_eq 3 _ _ hv hr], hb⟩
end Go.Proofs.YtfdijpacbhomjaaGreatDoor.Abs
namespace Go.Proofs.YtfdijpacbhomjaaGreatDoor.Abs
open Go Go.RowKit Go.ChangeShapes Go.WideShapes
inductive ARep (P : Program) (m : Mem) (B : Nat) : TypeId → List Value → Prop
  | bool {t : TypeId} (h : P.underlying t = some .bool) (b : Bool) : ARep P m B t [.bool b]
  | int {t : TypeId} {k : IntKind} (h : P.underlying t = some (.int k)) (n : Int) (hw : (Lit.int k n).wf = true) : ARep P m B t [.int k n]
  | string {t : TypeId} (h : P.underlying t = some .string) (s : ByteArray) (hs : s.size ≤ B) : ARep P m B t [.string s]
  | nil {t e : TypeId} (h : P.underlying t = some (.slice e)) : ARep P m B t [.slice none 0 0]
  | empty {t e : TypeId} (h : P.underlying t = some (.slice e)) (b cap : Nat) (hb : m.Has b) (hc : cap ≤ maxLen) (hB : cap ≤ B ∧ cap * P.bytesOf e ≤ reachBytes) : ARep P m B t [.slice (some ⟨b, 0, none⟩) 0 cap]
  | slice {t e : TypeId} (h : P.underlying t = some (.slice e)) (b len cap : Nat) (all : List Value) (hb : m.get b = some (.cells true (P.cellsOf e) all)) (hl : all.length = len * P.cellsOf e) (hlc : len ≤ cap) (hc : cap ≤ maxLen) (hB : cap ≤ B ∧ cap * P.bytesOf e ≤ reachBytes)
      (hx : ∀ i, i < len → ARep P m B e ((all.drop (i * P.cellsOf e)).take (P.cellsOf e))) : ARep P m B t [.slice (some ⟨b, 0, none⟩) len cap]
  | struct {t : TypeId} {fs : Array Field} (h : P.underlying t = some (.struct fs)) (cs : List Value) (hl : cs.length = P.cellsOf t) (hx : ∀ f ∈ fs.toList, ARep P m B f.type ((cs.drop f.offset).take (P.cellsOf f.type))) : ARep P m B t cs
  | array {t e : TypeId} {n : Nat} (h : P.underlying t = some (.array n e)) (cs : List Value) (hl : cs.length = P.cellsOf t) (hx : ∀ i, i < n → ARep P m B e ((cs.drop (i * P.cellsOf e)).take (P.cellsOf e))) : ARep P m B t cs
theorem ARep.mono {P : Program} {m m' : Mem} {B : Nat} {t : TypeId} {cs : List Value} (h : ARep P m B t cs) (hh : ∀ b, m.Has b → m'.Has b) (hg : ∀ b x, m.get b = some x → m'.get b = some x) : ARep P m' B t cs := by
  induction h with
  | bool h b => exact .bool h b
  | int h n hw => exact .int h n hw
  | string h s hs => exact .string h s hs
  | nil h => exact .nil h
  | empty h b cap hb hc hB => exact .empty h b cap (hh b hb) hc hB
  | slice h b len cap all hb hl hlc hc hB _ ih => exact .slice h b len cap all (hg _ _ hb) hl hlc hc hB ih
  | struct h cs hl _ ih => exact .struct h cs hl ih
  | array h cs hl _ ih => exact .array h cs hl ih
structure Lifted (ι : Nat → Loc) (m : Mem) (w : World) : Prop where
  rel : Rel ι m w
  ro : ∀ b, ¬ m.Own b
structure Lifts (ι : Nat → Loc) (m : Mem) (κ : Nat → Loc) (m' : Mem) : Prop where
  has : ∀ b, m.Has b → m'.Has b
  at_ : ∀ b, m.Has b → κ b = ι b
  get : ∀ b x, m.get b = some x → m'.get b = some x
theorem Lifts.refl (ι : Nat → Loc) (m : Mem) : Lifts ι m ι m := ⟨fun _ h => h, fun _ _ => rfl, fun _ _ h => h⟩
theorem Lifts.trans {ι κ μ : Nat → Loc} {m m' m'' : Mem} (h : Lifts ι m κ m') (k : Lifts κ m' μ m'') : Lifts ι m μ m'' :=
  ⟨fun b hb => k.has b (h.has b hb), fun b hb => (k.at_ b (h.has b hb)).trans (h.at_ b hb), fun b x hb => k.get b x (h.get b x hb)⟩
theorem Lifts.rels {ι κ : Nat → Loc} {m m' : Mem} (h : Lifts ι m κ m') {xs ys : List Value} (hr : VRels m.Has ι xs ys) : VRels m'.Has κ xs ys := hr.mono h.has h.at_
theorem Lifted.nil (w : World) (hg : GlobK w) : Lifted (fun _ => ⟨0, 0, 0, 0⟩) ⟨[]⟩ w :=
  ⟨⟨fun b ro s cs hb => by have := Mem.get_lt hb; simp [Mem.size] at this, fun b x hb => by have := Mem.get_lt hb; simp [Mem.size] at this, fun b b' hb => by
    obtain ⟨x, hx⟩ := Option.ne_none_iff_exists'.1 hb
    have := Mem.get_lt hx; simp [Mem.size] at this, ⟨hg, fun b ⟨y, hb, _⟩ => by have := Mem.get_lt hb; simp [Mem.size] at this⟩⟩, fun b ⟨y, hb, _⟩ => by have := Mem.get_lt hb; simp [Mem.size] at this⟩
def pushDead (m : Mem) : Mem := ⟨m.blks ++ [some none]⟩
theorem get_dead {m : Mem} {b : Nat} {x : Blk} (h : (pushDead m).get b = some x) : m.get b = some x := by
  have h1 := Mem.get_some h
  unfold pushDead at h1
  simp only [List.getElem?_append] at h1
  split at h1
  · unfold Mem.get; rw [h1]
  · rename_i hb
    cases hk : b - m.blks.length with
    | zero => rw [hk] at h1; simp at h1
    | succ k => rw [hk] at h1; simp at h1
theorem has_dead {m : Mem} {b : Nat} (h : m.Has b) : (pushDead m).Has b := by
  obtain ⟨o, ho⟩ := h
  have hl := (List.getElem?_eq_some_iff.1 ho).1
  exact ⟨o, by unfold pushDead; rw [List.getElem?_append, if_pos hl]; exact ho⟩
theorem has_dead_new (m : Mem) : (pushDead m).Has m.size := ⟨none, by simp [pushDead, Mem.size]⟩
theorem dead_get {m : Mem} {b : Nat} {x : Blk} (h : m.get b = some x) : (pushDead m).get b = some x := by
  have h1 := Mem.get_some h
  have hl := (List.getElem?_eq_some_iff.1 h1).1
  unfold Mem.get pushDead
  rw [List.getElem?_append, if_pos hl, h1]
theorem Lifted.dead {ι : Nat → Loc} {m : Mem} {w : World} (h : Lifted ι m w) (l : Loc) : Lifted (newLoc ι m.size l) (pushDead m) w ∧ Lifts ι m (newLoc ι m.size l) (pushDead m) := by
  have hat : ∀ b, m.Has b → newLoc ι m.size l b = ι b := fun b hb => newLoc_old l (Mem.has_lt hb)
  refine ⟨⟨⟨fun b ro s cs hb => ?_, fun b x hb => (by rw [hat b (Mem.get_has (get_dead hb))]; exact (h.rel.oth b x (get_dead hb)).mono (fun _ => has_dead) hat), fun b b' _ ⟨y, hb', hy⟩ _ => absurd ⟨y, get_dead hb', hy⟩ (h.ro b'), ⟨h.rel.glob.known, fun b ⟨y, hb, hy⟩ => absurd ⟨y, get_dead hb, hy⟩ (h.ro b)⟩⟩, fun b ⟨y, hb, hy⟩ => h.ro b ⟨y, get_dead hb, hy⟩⟩, ⟨fun _ => has_dead, hat, fun _ _ => dead_get⟩⟩
  have hg := get_dead hb
  rw [hat b (Mem.get_has hg)]
  obtain ⟨C, e, fz, h1, h2, h3, h4, h5, h6⟩ := h.rel.at' b ro s cs hg
  exact ⟨C, e, fz, h1, h2, h3, h4, fun i v hi => by
    obtain ⟨h7, v', h8, h9⟩ := h5 i v hi
    exact ⟨h7, v', h8, h9.mono (fun _ => has_dead) hat⟩, h6⟩
theorem Lifted.push {ι : Nat → Loc} {m : Mem} {w : World} (h : Lifted ι m w) (l : Loc) (cs : List Value) (C : Array Value) (e : TypeId) (fz : Nat × Nat) (hC : w.heap[l.blk]? = some (.cells C e fz)) (hs : C.size = l.size) (hl : l.base + cs.length ≤ C.size)
    (hv : ∀ i v, cs[i]? = some v → v.oneCell' = true ∧ ∃ v', C[l.base + i]? = some v' ∧ VRel m.Has ι v v') (hst : TagAt l.base l.stride e C.size cs.length) : Lifted (newLoc ι m.size l) (m.push (.cells true l.stride cs)) w ∧ Lifts ι m (newLoc ι m.size l) (m.push (.cells true l.stride cs)) := by
  have hat : ∀ b, m.Has b → newLoc ι m.size l b = ι b := fun b hb => newLoc_old l (Mem.has_lt hb)
  have hnot : ∀ b, ¬ (m.push (.cells true l.stride cs)).Own b := by
    rintro b ⟨y, hb, hy⟩
    rcases Mem.get_push hb with ⟨_, hg⟩ | ⟨_, hx⟩
    · exact h.ro b ⟨y, hg, hy⟩
    · cases hx; cases hy
  have mono : ∀ {v v' : Value}, VRel m.Has ι v v' → VRel (m.push (.cells true l.stride cs)).Has (newLoc ι m.size l) v v' := fun hv => hv.mono (fun _ hb => Mem.has_push _ hb) hat
  refine ⟨⟨⟨fun b ro s cs' hb => ?_, fun b x hb => (by
    rcases Mem.get_push hb with ⟨hlt, hg⟩ | ⟨rfl, hx⟩
    · rw [hat b (Mem.get_has hg)]
      exact (h.rel.oth b x hg).mono (fun _ hb => Mem.has_push _ hb) hat
    · cases hx; trivial), fun b b' _ hb' _ => absurd hb' (hnot b'), ⟨h.rel.glob.known, fun b hb => absurd hb (hnot b)⟩⟩, hnot⟩, ⟨fun _ hb => Mem.has_push _ hb, hat, fun b x hb => by rw [Mem.get_push_old (Mem.get_lt hb)]; exact hb⟩⟩
  rcases Mem.get_push hb with ⟨hlt, hg⟩ | ⟨rfl, hx⟩
  · rw [hat b (Mem.get_has hg)]
    obtain ⟨C, e, fz, h1, h2, h3, h4, h5, h6⟩ := h.rel.at' b ro s cs' hg
    exact ⟨C, e, fz, h1, h2, h3, h4, fun i v hi => by
      obtain ⟨h7, v', h8, h9⟩ := h5 i v hi
      exact ⟨h7, v', h8, mono h9⟩, h6⟩
  · cases hx
    rw [newLoc_new]
    exact ⟨C, e, fz, hC, hs, ⟨rfl, hst⟩, hl, fun i v hi => by
      obtain ⟨h7, v', h8, h9⟩ := hv i v hi
      exact ⟨h7, v', h8, mono h9⟩, fun hf => by cases hf⟩
def tiles (P : Program) : Nat → List Field → Option Nat
  | o, [] => some o
  | o, f :: r => if f.offset = o then tiles P (o + P.cellsOf f.type) r else none
def liftable (P : Program) : Nat → TypeId → Bool
  | 0, _ => false
  | d + 1, t => match P.underlying t with
    | some .bool => true
    | some (.int _) => true
    | some .string => true
    | some (.slice e) => decide (0 < P.cellsOf e ∧ 0 < P.bytesOf e ∧ P.bytesOf e ≤ 67108864) && liftable P d e
    | some (.struct fs) => (tiles P 0 fs.toList == some (P.cellsOf t)) && fs.toList.all fun f => liftable P d f.type
    | some (.array n e) => (n * P.cellsOf e == P.cellsOf t) && liftable P d e
    | _ => false
section
variable {H : Type} {enc : TypeId × Value → H} {P : Program} {B : Nat} {w : World} {base : Nat}
def LiftOne (P : Program) (B : Nat) (w : World) (t : TypeId) (cs : List Value) : Prop := ∀ (ι : Nat → Loc) (m : Mem), Lifted ι m w → ∃ (κ : Nat → Loc) (m' : Mem) (cs' : List Value), Lifted κ m' w ∧ Lifts ι m κ m' ∧ ARep P m' B t cs' ∧ VRels m'.Has κ cs' cs ∧ ∀ v ∈ cs', v.oneCell' = true
theorem lift_many : ∀ (its : List (TypeId × List Value)), (∀ x ∈ its, LiftOne P B w x.1 x.2) → ∀ (ι : Nat → Loc) (m : Mem), Lifted ι m w → ∃ (κ : Nat → Loc) (m' : Mem) (css : List (List Value)), Lifted κ m' w ∧ Lifts ι m κ m' ∧ css.length = its.length ∧
    (∀ (i : Nat) (x : TypeId × List Value) (cs : List Value), its[i]? = some x → css[i]? = some cs → ARep P m' B x.1 cs ∧ cs.length = x.2.length) ∧ VRels m'.Has κ css.flatten (its.flatMap (·.2)) ∧ ∀ v ∈ css.flatten, v.oneCell' = true
  | [], _, ι, m, hl => ⟨ι, m, [], hl, Lifts.refl ι m, rfl, fun i x cs h => by simp at h, .nil, fun v hv => by simp at hv⟩
  | x :: r, h, ι, m, hl => by
    obtain ⟨κ, m1, cs, h1, h2, h3, h4, h5⟩ := h x (by simp) ι m hl
    obtain ⟨μ, m2, css, g1, g2, g3, g4, g5, g6⟩ := lift_many r (fun y hy => h y (by simp [hy])) κ m1 h1
    refine ⟨μ, m2, cs :: css, g1, h2.trans g2, by simp [g3], fun i y cs' hy hc => ?_, ?_, ?_⟩
    · cases i with
      | zero =>
        simp at hy hc; subst hy; subst hc
        exact ⟨h3.mono g2.has g2.get, h4.1⟩
      | succ i => exact g4 i y cs' (by simpa using hy) (by simpa using hc)
    · rw [List.flatten_cons, List.flatMap_cons]
      exact (g2.rels h4).append g5
    · intro v hv
      rw [List.flatten_cons, List.mem_append] at hv
      rcases hv with hv | hv
      · exact h5 v hv
      · exact g6 v hv
theorem flatten_at : ∀ (css : List (List Value)) (i : Nat) (cs : List Value), css[i]? = some cs → (css.flatten.drop (((css.take i).map List.length).sum)).take cs.length = cs
  | [], i, cs, h => by simp at h
  | x :: r, 0, cs, h => by simp at h; subst h; simp
  | x :: r, i + 1, cs, h => by
    have := flatten_at r i cs (by simpa using h)
    rw [List.flatten_cons, List.take_succ_cons, List.map_cons, List.sum_cons, List.drop_append, ]
    rw [List.drop_eq_nil_of_le (by omega), List.nil_append, Nat.add_sub_cancel_left]
    exact this
theorem tiles_at : ∀ (fs : List Field) (o n : Nat), tiles P o fs = some n → n = o + (fs.map fun f => P.cellsOf f.type).sum ∧ ∀ i f, fs[i]? = some f → f.offset = o + ((fs.take i).map fun f => P.cellsOf f.type).sum
  | [], o, n, h => by simp [tiles] at h; subst h; exact ⟨by simp, fun i f h => by simp at h⟩
  | g :: r, o, n, h => by
    unfold tiles at h
    split at h
    · rename_i hg
      obtain ⟨h1, h2⟩ := tiles_at r _ n h
      refine ⟨by rw [h1]; simp; omega, fun i f hf => ?_⟩
      cases i with
      | zero => simp at hf; subst hf; simp [hg]
      | succ i =>
        rw [h2 i f (by simpa using hf)]
        simp; omega
    · cases h
theorem sum_const : ∀ (l : List Nat) (n : Nat), (∀ x ∈ l, x = n) → l.sum = l.length * n
  | [], n, _ => by simp
  | x :: r, n, h => by
    rw [List.sum_cons, sum_const r n (fun y hy => h y (by simp [hy])), h x (by simp), List.length_cons, Nat.add_mul]
    omega
theorem flatMap_stretch : ∀ (k n : Nat) (cs : List Value), cs.length = k * n → ((List.range k).flatMap fun i => (cs.drop (i * n)).take n) = cs
  | 0, n, cs, h => by simp at h; simp [h]
  | k + 1, n, cs, h => by
    rw [List.range_succ, List.flatMap_append]
    have e : ((List.range k).flatMap fun i => (cs.drop (i * n)).take n) = ((List.range k).flatMap fun i => ((cs.take (k * n)).drop (i * n)).take n) := by
      rw [List.flatMap_def, List.flatMap_def]
      congr 1
      refine List.map_congr_left fun i hi => ?_
      have hi : i < k := by simpa using hi
      have : i * n + n ≤ k * n := by
        have := Nat.mul_le_mul_right n (show i + 1 ≤ k by omega)
        rw [Nat.add_mul] at this; omega
      rw [List.drop_take, List.take_take, Nat.min_eq_left (by omega)]
    rw [e, flatMap_stretch k n (cs.take (k * n)) (by rw [List.length_take, Nat.min_eq_left]; rw [h, Nat.add_mul]; omega)]
    rw [Nat.add_mul] at h
    simp only [List.flatMap_cons, List.flatMap_nil, List.append_nil]
    rw [List.take_of_length_le (l := cs.drop (k * n)) (by rw [List.length_drop]; omega), List.take_append_drop]
theorem tiles_stretch : ∀ (fs : List Field) (o n : Nat) (cs : List Value), tiles P o fs = some n → cs.length = n → (fs.flatMap fun f => (cs.drop f.offset).take (P.cellsOf f.type)) = cs.drop o
  | [], o, n, cs, h, hl => by
    simp [tiles] at h; subst h
    rw [List.drop_eq_nil_of_le (by omega)]; rfl
  | g :: r, o, n, cs, h, hl => by
    unfold tiles at h
    split at h
    · rename_i hg
      rw [List.flatMap_cons, tiles_stretch r _ n cs h hl, hg, ← List.drop_drop]
      exact List.take_append_drop _ _
    · cases h
theorem tiles_le : ∀ (fs : List Field) (o n : Nat), tiles P o fs = some n → o ≤ n
  | [], o, n, h => by simp [tiles] at h; omega
  | g :: r, o, n, h => by
    unfold tiles at h
    split at h
    · have := tiles_le r _ n h; omega
    · cases h
theorem tiles_len : ∀ (fs : List Field) (o n : Nat) (cs : List Value), tiles P o fs = some n → cs.length = n → ∀ f ∈ fs, ((cs.drop f.offset).take (P.cellsOf f.type)).length = P.cellsOf f.type
  | [], o, n, cs, h, hl, f, hf => by simp at hf
  | g :: r, o, n, cs, h, hl, f, hf => by
    unfold tiles at h
    split at h
    · rename_i hg
      have := tiles_le r _ n h
      rcases List.mem_cons.1 hf with rfl | hf
      · rw [List.length_take, List.length_drop, hg]; omega
      · exact tiles_len r _ n cs h hl f hf
    · cases h
theorem many_len (its : List (TypeId × List Value)) (css : List (List Value)) (h3 : css.length = its.length) {m : Mem}
    (h4 : ∀ (i : Nat) (x : TypeId × List Value) (cs : List Value), its[i]? = some x → css[i]? = some cs → ARep P m B x.1 cs ∧ cs.length = x.2.length) : css.map List.length = its.map fun x => x.2.length := by
  apply List.ext_getElem (by simp [h3])
  intro i h1 h2
  simp only [List.getElem_map]
  simp only [List.length_map] at h1 h2
  exact (h4 i _ _ (List.getElem?_eq_getElem h2) (List.getElem?_eq_getElem h1)).2
theorem lift_row (e : TypeId) (N len : Nat) (cs0 : List Value) (hl : cs0.length = len * N) (h : ∀ i, i < len → LiftOne P B w e ((cs0.drop (i * N)).take N)) (ι : Nat → Loc) (m : Mem) (hL : Lifted ι m w) :
    ∃ (κ : Nat → Loc) (m' : Mem) (cs' : List Value), Lifted κ m' w ∧ Lifts ι m κ m' ∧ cs'.length = len * N ∧ (∀ i, i < len → ARep P m' B e ((cs'.drop (i * N)).take N)) ∧ VRels m'.Has κ cs' cs0 ∧ ∀ v ∈ cs', v.oneCell' = true := by
  have hst : ∀ i, i < len → ((cs0.drop (i * N)).take N).length = N := by
    intro i hi
    have := Nat.mul_le_mul_right N (show i + 1 ≤ len by omega)
    rw [Nat.add_mul] at this
    rw [List.length_take, List.length_drop]; omega
  obtain ⟨κ, m', css, g1, g2, g3, g4, g5, g6⟩ := lift_many (P := P) (B := B) (w := w) ((List.range len).map fun i => (e, (cs0.drop (i * N)).take N)) (by
    intro x hx
    obtain ⟨i, hi, rfl⟩ := List.mem_map.1 hx
    exact h i (by simpa using hi)) ι m hL
  have hmap : ((List.range len).map fun i => (e, (cs0.drop (i * N)).take N)).flatMap (·.2) = cs0 := by
    rw [List.flatMap_map]
    exact flatMap_stretch len N cs0 hl
  rw [hmap] at g5
  have hml := many_len _ css g3 g4
  have hN : ∀ k, k ∈ css.map List.length → k = N := by
    intro k hk
    rw [hml, List.map_map] at hk
    obtain ⟨i, hi, rfl⟩ := List.mem_map.1 hk
    exact hst i (by simpa using hi)
  refine ⟨κ, m', css.flatten, g1, g2, by rw [g5.1, hl], fun i hi => ?_, g5, g6⟩
  have hi2 : i < css.length := by rw [g3]; simpa using hi
  have h7 := flatten_at css i _ (List.getElem?_eq_getElem hi2)
  rw [sum_const _ N (fun x hx => hN x (by rw [List.map_take] at hx; exact List.mem_of_mem_take hx)), List.length_map, List.length_take, Nat.min_eq_left (by omega), hN css[i].length (List.mem_map.2 ⟨_, List.getElem_mem _, rfl⟩)] at h7
  rw [h7]
  exact (g4 i (e, (cs0.drop (i * N)).take N) css[i] (by simp [hi]) (List.getElem?_eq_getElem hi2)).1
theorem lift_fields (t : TypeId) (fs : Array Field) (hu : P.underlying t = some (.struct fs)) (ht : tiles P 0 fs.toList = some (P.cellsOf t)) (cs0 : List Value) (hl : cs0.length = P.cellsOf t)
    (h : ∀ f ∈ fs.toList, LiftOne P B w f.type ((cs0.drop f.offset).take (P.cellsOf f.type))) : LiftOne P B w t cs0 := by
  intro ι m hL
  obtain ⟨κ, m', css, g1, g2, g3, g4, g5, g6⟩ := lift_many (P := P) (B := B) (w := w) (fs.toList.map fun f => (f.type, (cs0.drop f.offset).take (P.cellsOf f.type))) (by
    intro x hx
    obtain ⟨f, hf, rfl⟩ := List.mem_map.1 hx
    exact h f hf) ι m hL
  have hmap : (fs.toList.map fun f => (f.type, (cs0.drop f.offset).take (P.cellsOf f.type))).flatMap (·.2) = cs0 := by
    rw [List.flatMap_map]
    have := tiles_stretch fs.toList 0 _ cs0 ht hl
    rw [List.drop_zero] at this
    exact this
  rw [hmap] at g5
  have hml := many_len _ css g3 g4
  have hcf : css.map List.length = fs.toList.map fun f => P.cellsOf f.type := by
    rw [hml, List.map_map]
    exact List.map_congr_left fun f hf => tiles_len fs.toList 0 _ cs0 ht hl f hf
  refine ⟨κ, m', css.flatten, g1, g2, .struct hu _ (by rw [g5.1, hl]) fun f hf => ?_, g5, g6⟩
  obtain ⟨i, hi, hfi⟩ := List.getElem_of_mem hf
  have hi2 : i < css.length := by rw [g3]; simpa using hi
  have hoff := (tiles_at fs.toList 0 _ ht).2 i f (by rw [List.getElem?_eq_getElem hi, hfi])
  have h7 := flatten_at css i _ (List.getElem?_eq_getElem hi2)
  have hlen : css[i].length = P.cellsOf f.type := by
    have := (g4 i (f.type, (cs0.drop f.offset).take (P.cellsOf f.type)) css[i] (by rw [List.getElem?_map, List.getElem?_eq_getElem hi, hfi]; rfl) (List.getElem?_eq_getElem hi2)).2
    rw [this]
    exact tiles_len fs.toList 0 _ cs0 ht hl f hf
  rw [List.map_take, hcf, ← List.map_take, ← Nat.zero_add (List.sum _), ← hoff, hlen] at h7
  rw [h7]
  exact (g4 i (f.type, (cs0.drop f.offset).take (P.cellsOf f.type)) css[i] (by rw [List.getElem?_map, List.getElem?_eq_getElem hi, hfi]; rfl) (List.getElem?_eq_getElem hi2)).1
theorem lift_slice (t e : TypeId) (hu : P.underlying t = some (.slice e)) (hN : 0 < P.cellsOf e) (a : Addr) (len cap : Nat) (hlc : len ≤ cap) (hc : cap ≤ maxLen) (hB : cap ≤ B ∧ cap * P.bytesOf e ≤ reachBytes)
    (h : ∀ i, i < len → ∃ cs, w.cells? base (a.add (i * P.cellsOf e)) (P.cellsOf e) = some cs ∧ LiftOne P B w e cs) (hsp : 0 < cap → a.spot = none) : LiftOne P B w t [.slice (some a) len cap] := by
  intro ι m hL
  obtain ⟨b, off, sp⟩ := a
  by_cases h0 : len = 0
  · subst h0
    obtain ⟨g1, g2⟩ := hL.dead ⟨b, off, 0, 0⟩
    refine ⟨_, _, [.slice (some ⟨m.size, 0, none⟩) 0 cap], g1, g2, .empty hu _ _ (has_dead_new m) hc hB, .cons ?_ .nil, fun v hv => by simp at hv; subst hv; rfl⟩
    by_cases hc0 : cap = 0
    · subst hc0
      exact .empty _ _ _ (has_dead_new m)
    · have hsp := hsp (by omega)
      simp only at hsp
      subst hsp
      have := VRel.slice (n := (pushDead m).Has) (ι := newLoc ι m.size ⟨b, off, 0, 0⟩) m.size 0 0 cap cap (has_dead_new m) (Nat.zero_le _) (.inl rfl)
      rw [newLoc_new] at this
      exact this
  · obtain ⟨N, hNe⟩ : ∃ N, N = P.cellsOf e := ⟨_, rfl⟩
    rw [← hNe] at hN h
    have hsp := hsp (by omega)
    simp only at hsp
    subst hsp
    have hcell : ∀ i, i < len → ∃ cs, w.cells? base (⟨b, off + i * N, none⟩ : Addr) N = some cs ∧ LiftOne P B w e cs := by
      intro i hi
      have := h i hi
      rwa [Addr_add] at this
    obtain ⟨cs1, hc1, _⟩ := hcell 0 (by omega)
    obtain ⟨hl1, hg1⟩ := cells?_get hc1
    have hw0 := hg1 0 cs1[0] (List.getElem?_eq_getElem (by omega))
    rw [Addr_add] at hw0
    have hblk : ∃ C e fz, w.heap[b]? = some (.cells C e fz) := by
      unfold World.cell? at hw0
      simp only at hw0
      split at hw0
      · rename_i C e fz hC; exact ⟨C, e, fz, hC⟩
      · cases hw0
    obtain ⟨C, eC, fz, hC⟩ := hblk
    have hin : ∀ i, i < len → off + i * N + N ≤ C.size ∧ ∀ cs, w.cells? base (⟨b, off + i * N, none⟩ : Addr) N = some cs → cs = ((C.toList.drop off).drop (i * N)).take N := by
      intro i hi
      obtain ⟨cs, hcs, _⟩ := hcell i hi
      obtain ⟨hl, hg⟩ := cells?_get hcs
      have hge : ∀ j, j < N → C[off + i * N + j]? = cs[j]? := by
        intro j hj
        have := hg j cs[j] (List.getElem?_eq_getElem (by omega))
        rw [Addr_add, cell_of_block hC] at this
        rw [this, List.getElem?_eq_getElem]
      have hlast := hge (N - 1) (by omega)
      rw [List.getElem?_eq_getElem (by omega)] at hlast
      have hlt := (Array.getElem?_eq_some_iff.1 hlast).1
      refine ⟨by omega, fun cs' hcs' => ?_⟩
      rw [hcs] at hcs'
      cases hcs'
      apply List.ext_getElem?
      intro j
      by_cases hj : j < N
      · rw [← hge j hj, List.getElem?_take, if_pos hj, List.getElem?_drop, List.getElem?_drop, Array.getElem?_toList, Nat.add_assoc]
      · rw [List.getElem?_eq_none (by omega), List.getElem?_eq_none (by rw [List.length_take]; omega)]
    have hsz : off + len * N ≤ C.size := by
      have := (hin (len - 1) (by omega)).1
      rw [Nat.sub_mul, Nat.one_mul] at this
      have h2 : N ≤ len * N := Nat.le_mul_of_pos_left _ (by omega)
      omega
    have hl0 : ((C.toList.drop off).take (len * N)).length = len * N := by rw [List.length_take, List.length_drop, Array.length_toList]; omega
    obtain ⟨κ, m', cs', g1, g2, g3, g4, g5, g6⟩ := lift_row (P := P) (B := B) (w := w) e N len ((C.toList.drop off).take (len * N)) hl0 (by
      intro i hi
      obtain ⟨cs, hcs, hlo⟩ := hcell i hi
      have := (hin i hi).2 cs hcs
      have h2 := Nat.mul_le_mul_right N (show i + 1 ≤ len by omega)
      rw [Nat.add_mul] at h2
      rw [List.drop_take, List.take_take, Nat.min_eq_left (by omega), ← this]
      exact hlo) ι m hL
    have hlen : cs'.length = len * N := g3
    obtain ⟨k1, k2⟩ := g1.push ⟨b, off, C.size, N⟩ cs' C eC fz hC rfl (by simp only; omega) (by
      intro i v hi
      refine ⟨g6 v (List.mem_of_getElem? hi), ?_⟩
      obtain ⟨y, hy, hr⟩ := g5.get hi
      rw [List.getElem?_take] at hy
      split at hy
      · rw [List.getElem?_drop, Array.getElem?_toList] at hy; exact ⟨y, hy, hr⟩
      · cases hy) (.row len hlen)
    refine ⟨_, _, [.slice (some ⟨m'.size, 0, none⟩) len cap], k1, g2.trans k2, .slice hu _ _ _ cs' (by rw [← hNe]; exact Mem.get_push_new _ _) (by rw [← hNe]; exact hlen) hlc hc hB (fun i hi => ?_), .cons ?_ .nil, fun v hv => by simp at hv; subst hv; rfl⟩
    · rw [← hNe]
      exact (g4 i hi).mono k2.has k2.get
    · have := VRel.slice (n := (m'.push (.cells true N cs')).Has) (ι := newLoc κ m'.size ⟨b, off, C.size, N⟩) m'.size 0 len cap cap (Mem.has_push_new _ _) hlc (.inl rfl)
      rw [newLoc_new] at this
      exact this
structure Closed (P : Program) (B : Nat) (K : TypeId → DataW H → Prop) : Prop where
  str : ∀ t l, K t (.lit (.string l)) → l.length ≤ B
  slice : ∀ t e es sp, P.underlying t = some (.slice e) → 0 < P.bytesOf e → P.bytesOf e ≤ 67108864 → K t (.slice es sp) → (es.length + sp.length ≤ B ∧ (es.length + sp.length) * P.bytesOf e ≤ reachBytes) ∧ ∀ d ∈ es, K e d
  struct : ∀ t fs ps, P.underlying t = some (.struct fs) → K t (.agg ps) → ∀ (i : Nat) (f : Field) d, fs[i]? = some f → ps[i]? = some d → K f.type d
  array : ∀ t n e ps, P.underlying t = some (.array n e) → K t (.agg ps) → ∀ d ∈ ps, K e d
theorem lift_one {K : TypeId → DataW H → Prop} (hK : Closed P B K) : ∀ (fuel d : Nat) (t : TypeId) (cs : List Value) (x : DataW H × List MemPlace), liftable P d t = true → DataW.trod enc P w base (fun _ => true) true fuel t cs = some x → K t x.1 → LiftOne P B w t cs
  | 0, _, _, _, _, _, h, _ => by simp [DataW.trod] at h
  | fuel + 1, 0, _, _, _, hd, _, _ => by simp [liftable] at hd
  | fuel + 1, d + 1, t, cs, x, hd, h, hk => by
    intro ι m hL
    unfold liftable at hd
    have one : ∀ v, flat 3 v = true → v.oneCell' = true → ARep P m B t [v] → ∃ (κ : Nat → Loc) (m' : Mem) (cs' : List Value), Lifted κ m' w ∧ Lifts ι m κ m' ∧ ARep P m' B t cs' ∧ VRels m'.Has κ cs' [v] ∧ ∀ v ∈ cs', v.oneCell' = true := fun v hf h1 hr =>
      ⟨ι, m, [v], hL, Lifts.refl ι m, hr, .cons (flat_rel 3 v hf) .nil, fun u hu => by simp at hu; subst hu; exact h1⟩
    cases hu : P.underlying t with
    | none => simp [hu] at hd
    | some ty =>
      simp only [hu] at hd
      cases ty <;> simp only [Bool.false_eq_true] at hd
      case bool =>
        simp only [DataW.trod, hu] at h
        split at h <;> simp_all
        exact one _ rfl rfl (.bool hu _)
      case int k =>
        simp only [DataW.trod, hu] at h
        split at h <;> simp_all
        rename_i h0
        obtain ⟨⟨rfl, hw⟩, _⟩ := h
        cases h0
        exact one _ rfl rfl (.int hu _ hw)
      case string =>
        simp only [DataW.trod, hu] at h
        split at h <;> simp_all
        obtain ⟨_, rfl⟩ := h
        have := hK.str _ _ hk
        exact one _ rfl rfl (.string hu _ (by simpa using this))
      case slice e =>
        simp only [Bool.and_eq_true, decide_eq_true_eq] at hd
        simp only [DataW.trod, hu] at h
        match cs, h with
        | [.slice none 0 0], h => exact one _ rfl rfl (.nil hu)
        | [.slice (some a) len cap], h =>
          simp only at h
          split at h
          · rename_i hlc
            simp only [Option.bind_eq_some_iff, Option.map_eq_some_iff, if_true] at h
            obtain ⟨elems, h1, rest, h2, rfl⟩ := h
            obtain ⟨hkB, hke⟩ := hK.slice _ _ _ _ hu hd.1.2.1 hd.1.2.2 hk
            have hat : ∀ i y, K e y.1 → (w.cells? base (a.add (i * P.cellsOf e)) (P.cellsOf e)).bind (DataW.trod enc P w base (fun _ => true) true fuel e) = some y → ∃ cs, w.cells? base (a.add (i * P.cellsOf e)) (P.cellsOf e) = some cs ∧ LiftOne P B w e cs := by
              intro i y hky hy
              rw [Option.bind_eq_some_iff] at hy
              obtain ⟨cs, hcs, htr⟩ := hy
              exact ⟨cs, hcs, lift_one hK fuel d e cs y hd.2 htr hky⟩
            obtain ⟨l1, k1⟩ := mapM_get h1
            obtain ⟨l2, k2⟩ := mapM_get h2
            have hel : ∀ i, i < len → ∃ cs, w.cells? base (a.add (i * P.cellsOf e)) (P.cellsOf e) = some cs ∧ LiftOne P B w e cs := by
              intro i hi
              have := k1 i (by simpa using hi)
              rw [List.getElem_range, List.getElem?_eq_getElem (by rw [l1]; simpa using hi)] at this
              exact hat i _ (hke _ (List.mem_map.2 ⟨_, List.getElem_mem _, rfl⟩)) this
            refine lift_slice t e hu hd.1.1 a len cap hlc.2.1 hlc.2.2 (by
              have e1 : (elems.map (·.1)).length + (rest.map (·.1)).length = cap := by
                rw [List.length_map, List.length_map, l1, l2, List.length_range, List.length_range]; omega
              rw [e1] at hkB
              exact hkB) hel (fun hcap => ?_) ι m hL
            have : ∃ cs, w.cells? base (a.add (0 * P.cellsOf e)) (P.cellsOf e) = some cs := by
              by_cases h0 : 0 < len
              · obtain ⟨cs, hcs, _⟩ := hel 0 h0
                exact ⟨cs, hcs⟩
              · have := k2 0 (by simp; omega)
                rw [List.getElem_range, List.getElem?_eq_getElem (by rw [l2]; simp; omega)] at this
                rw [Option.bind_eq_some_iff] at this
                obtain ⟨cs, hcs, _⟩ := this
                have e0 : len + 0 = 0 := by omega
                rw [e0] at hcs
                exact ⟨cs, hcs⟩
            obtain ⟨cs, hcs⟩ := this
            obtain ⟨hl, hg⟩ := cells?_get hcs
            have := hg 0 cs[0] (List.getElem?_eq_getElem (by omega))
            have := World.cell?_spot this
            simpa [Addr.add] using this
          · cases h
      case struct fs =>
        simp only [Bool.and_eq_true, beq_iff_eq, List.all_eq_true] at hd
        simp only [DataW.trod, hu] at h
        split at h
        · rename_i hl
          simp only [Option.map_eq_some_iff] at h
          obtain ⟨xs, h1, rfl⟩ := h
          obtain ⟨l1, k1⟩ := mapM_get h1
          refine lift_fields t fs hu hd.1 cs hl (fun f hf => ?_) ι m hL
          obtain ⟨i, hi, rfl⟩ := List.getElem_of_mem hf
          have := k1 i hi
          rw [List.getElem?_eq_getElem (by rw [l1]; exact hi)] at this
          exact lift_one hK fuel d _ _ _ (hd.2 _ hf) this (hK.struct _ _ _ hu hk i _ _ (by rw [← Array.getElem?_toList, List.getElem?_eq_getElem hi]) (by rw [List.getElem?_map, List.getElem?_eq_getElem (by rw [l1]; exact hi)]; rfl))
        · cases h
      case array n e =>
        simp only [Bool.and_eq_true, beq_iff_eq] at hd
        simp only [DataW.trod, hu] at h
        split at h
        · rename_i hl
          simp only [Option.map_eq_some_iff] at h
          obtain ⟨xs, h1, rfl⟩ := h
          obtain ⟨l1, k1⟩ := mapM_get h1
          obtain ⟨κ, m', cs', g1, g2, g3, g4, g5, g6⟩ := lift_row (P := P) (B := B) (w := w) e (P.cellsOf e) n cs (by rw [hl, hd.1]) (fun i hi => by
            have := k1 i (by simpa using hi)
            rw [List.getElem_range, List.getElem?_eq_getElem (by rw [l1]; simpa using hi)] at this
            exact lift_one hK fuel d e _ _ hd.2 this (hK.array _ _ _ _ hu hk _ (List.mem_map.2 ⟨_, List.getElem_mem _, rfl⟩))) ι m hL
          exact ⟨κ, m', cs', g1, g2, .array hu cs' (by rw [g3, hd.1]) g4, g5, g6⟩
        · cases h
end
def ArgOf (P : Program) (m : Mem) (B : Nat) (t : TypeId) (v : Value) : Prop :=
  match P.underlying t with
  | some (.struct _) | some (.array _ _) => ∃ cs : List Value, v = .agg cs.toArray ∧ ARep P m B t cs
  | _ => ARep P m B t [v]
theorem ArgOf.mono {P : Program} {m m' : Mem} {B : Nat} {t : TypeId} {v : Value} (h : ArgOf P m B t v) (hh : ∀ b, m.Has b → m'.Has b) (hg : ∀ b x, m.get b = some x → m'.get b = some x) : ArgOf P m' B t v := by
  unfold ArgOf at h ⊢
  split <;> rename_i hu <;> simp only [hu] at h
  · obtain ⟨cs, e, h⟩ := h; exact ⟨cs, e, h.mono hh hg⟩
  · obtain ⟨cs, e, h⟩ := h; exact ⟨cs, e, h.mono hh hg⟩
  · exact h.mono hh hg
inductive ArgsOf (P : Program) (m : Mem) (B : Nat) : List TypeId → List Value → Prop
  | nil : ArgsOf P m B [] []
  | cons {t : TypeId} {v : Value} {ts : List TypeId} {vs : List Value} (h : ArgOf P m B t v) (hs : ArgsOf P m B ts vs) : ArgsOf P m B (t :: ts) (v :: vs)
theorem ArgsOf.mono {P : Program} {m m' : Mem} {B : Nat} {ts : List TypeId} {vs : List Value} (h : ArgsOf P m B ts vs) (hh : ∀ b, m.Has b → m'.Has b) (hg : ∀ b x, m.get b = some x → m'.get b = some x) : ArgsOf P m' B ts vs := by
  induction h with
  | nil => exact .nil
  | cons h _ ih => exact .cons (h.mono hh hg) ih
theorem lift_arg {H : Type} {enc : TypeId × Value → H} {P : Program} {B : Nat} {K : TypeId → DataW H → Prop} (hK : Closed P B K) {w : World} {base b2 : Nat} {t : TypeId} {v : Value} {d : DataW H} {ps : List MemPlace} (hl : liftable P 20 t = true) (hv : Value.okWide P w .any b2 t v)
    (h : DataW.Trod enc P w base (fun _ => true) true t v d ps) (hk : K t d) (ι : Nat → Loc) (m : Mem) (hL : Lifted ι m w) :
    ∃ (κ : Nat → Loc) (m' : Mem) (v' : Value), Lifted κ m' w ∧ Lifts ι m κ m' ∧ ArgOf P m' B t v' ∧ VRel m'.Has κ v' v := by
  obtain ⟨fuel, h⟩ := h
  obtain ⟨κ, m', cs', g1, g2, g3, g4, g5⟩ := lift_one (enc := enc) hK fuel 20 t _ _ hl h hk ι m hL
  have hrow : (∃ cs : Array Value, v = .agg cs) → ((∃ fs, P.underlying t = some (.struct fs)) ∨ (∃ n e, P.underlying t = some (.array n e))) → ∃ (κ : Nat → Loc) (m' : Mem) (v' : Value), Lifted κ m' w ∧ Lifts ι m κ m' ∧ ArgOf P m' B t v' ∧ VRel m'.Has κ v' v := by
    rintro ⟨cs, rfl⟩ ht
    refine ⟨κ, m', .agg cs'.toArray, g1, g2, ?_, VRel.aggs (by simpa [Value.cells] using g4)⟩
    unfold ArgOf
    rcases ht with ⟨fs, hu⟩ | ⟨n, e, hu⟩ <;> rw [hu] <;> exact ⟨cs', rfl, g3⟩
  have hone : v.cells.toList = [v] → (∀ fs, P.underlying t ≠ some (.struct fs)) → (∀ n e, P.underlying t ≠ some (.array n e)) → ∃ (κ : Nat → Loc) (m' : Mem) (v' : Value), Lifted κ m' w ∧ Lifts ι m κ m' ∧ ArgOf P m' B t v' ∧ VRel m'.Has κ v' v := by
    intro hc h1 h2
    rw [hc] at g4
    have hlen := g4.1
    match cs', hlen with
    | [u], _ =>
      refine ⟨κ, m', u, g1, g2, ?_, g4.2 0 u v rfl rfl⟩
      unfold ArgOf
      split
      · rename_i fs hu; exact absurd hu (h1 fs)
      · rename_i n e hu; exact absurd hu (h2 n e)
      · exact g3
  unfold liftable at hl
  unfold Value.okWide at hv
  cases hu : P.underlying t with
  | none => simp [hu] at hl
  | some ty =>
    simp only [hu] at hl hv
    cases ty <;> simp only [Bool.false_eq_true] at hl
    case bool =>
      refine hone ?_ (by simp [hu]) (by simp [hu])
      unfold Cell.okWide at hv
      simp only [hu] at hv
      unfold Cell.ok at hv
      simp only [hu] at hv
      cases v <;> simp_all [Value.cells]
    case int k =>
      refine hone ?_ (by simp [hu]) (by simp [hu])
      unfold Cell.okWide at hv
      simp only [hu] at hv
      unfold Cell.ok at hv
      simp only [hu] at hv
      cases v <;> simp_all [Value.cells]
    case string =>
      refine hone ?_ (by simp [hu]) (by simp [hu])
      unfold Cell.okWide at hv
      simp only [hu] at hv
      unfold Cell.ok at hv
      simp only [hu] at hv
      cases v <;> simp_all [Value.cells]
    case slice e =>
      refine hone ?_ (by simp [hu]) (by simp [hu])
      unfold Cell.okWide at hv
      simp only [hu] at hv
      unfold Cell.ok at hv
      simp only [hu] at hv
      cases v <;> simp_all [Value.cells]
    case struct fs =>
      obtain ⟨cs, rfl, _⟩ := hv
      exact hrow ⟨cs, rfl⟩ (.inl ⟨fs, hu⟩)
    case array n e =>
      obtain ⟨cs, rfl, _⟩ := hv
      exact hrow ⟨cs, rfl⟩ (.inr ⟨n, e, hu⟩)
theorem lift_args {H : Type} {enc : TypeId × Value → H} {P : Program} {B : Nat} {K : TypeId → DataW H → Prop} (hK : Closed P B K) {w : World} {base b2 : Nat} : ∀ (ts : List TypeId) (vs : List Value) (ds : List (DataW H)) (ps : List MemPlace), (∀ t ∈ ts, liftable P 20 t = true) →
    (∀ (j : Nat) t v, ts[j]? = some t → vs[j]? = some v → Value.okWide P w .any b2 t v) → DataW.TrodAll enc P w base (fun _ => true) true ts vs ds ps → (∀ (j : Nat) t d, ts[j]? = some t → ds[j]? = some d → K t d) → ∀ (ι : Nat → Loc) (m : Mem), Lifted ι m w →
    ∃ (κ : Nat → Loc) (m' : Mem) (vs' : List Value), Lifted κ m' w ∧ Lifts ι m κ m' ∧ ArgsOf P m' B ts vs' ∧ VRels m'.Has κ vs' vs
  | [], [], [], _, _, _, _, _, ι, m, hL => ⟨ι, m, [], hL, Lifts.refl ι m, .nil, .nil⟩
  | t :: ts, v :: vs, d :: ds, _, hl, hv, h, hk, ι, m, hL => by
    obtain ⟨p, q, h1, h2, rfl⟩ := h
    obtain ⟨κ, m1, vs', g1, g2, g3, g4⟩ := lift_args hK ts vs ds q (fun t ht => hl t (by simp [ht])) (fun j t' v' hj1 hj2 => hv (j + 1) t' v' (by simpa using hj1) (by simpa using hj2)) h2 (fun j t' d' hj1 hj2 => hk (j + 1) t' d' (by simpa using hj1) (by simpa using hj2)) ι m hL
    obtain ⟨μ, m2, v', k1, k2, k3, k4⟩ := lift_arg hK (hl t (by simp)) (hv 0 t v rfl rfl) h1 (hk 0 t d rfl rfl) κ m1 g1
    exact ⟨μ, m2, v' :: vs', k1, g2.trans k2, .cons k3 (g3.mono k2.has k2.get), .cons k4 (k2.rels g4)⟩
  | [], _ :: _, _, _, _, _, h, _, _, _, _ => by simp [DataW.TrodAll] at h
  | [], [], _ :: _, _, _, _, h, _, _, _, _ => by simp [DataW.TrodAll] at h
  | _ :: _, [], _, _, _, _, h, _, _, _, _ => by simp [DataW.TrodAll] at h
  | _ :: _, _ :: _, [], _, _, _, h, _, _, _, _ => by simp [DataW.TrodAll] at h
theorem Spec.calls {P : Program} {k : FuncId} {xs : List Value} {m : Mem} {v : Value} (hf : flat 3 v = true) (h : Spec P k xs m fun u _ => u = v) {ι : Nat → Loc} {w : World} (hL : Lifted ι m w) {ys : List Value} (hy : VRels m.Has ι xs ys) :
    Calls P k ys.toArray w fun e w' => e = .returned v ∧ Below w.heap.size w w' := by
  refine (h ι w ys hy hL.rel).mono ?_
  rintro e w' ⟨u, v', κ, m', rfl, rfl, hv, hr, hs⟩
  exact ⟨by rw [flat_eq 3 _ _ hf hv], hs.os, hs.tape, hs.output, hs.size, fun g hg => hs.block g hg fun b hb => absurd hb (hL.ro b)⟩
theorem closed_sized {H : Type} (P : Program) : Closed (H := H) P reachBytes fun t d => ∀ n ∈ d.weights P t, n ≤ reachBytes where
  str t l h := h _ (by simp [DataW.weights])
  slice t e es sp hu h1 h2 h := by
    simp only [DataW.weights, hu] at h
    have h3 := h _ (List.mem_cons_self)
    refine ⟨⟨Nat.le_trans (Nat.le_mul_of_pos_right _ h1) h3, h3⟩, fun d hd n hn => h n ?_⟩
    refine List.mem_cons_of_mem _ (List.mem_append_left _ ?_)
    clear h h3
    induction es with
    | nil => cases hd
    | cons x r ih =>
      rw [DataW.weightsAll, List.mem_append]
      rcases List.mem_cons.1 hd with rfl | hd
      · exact .inl hn
      · exact .inr (ih hd)
  struct t fs ps hu h i f d hf hd n hn := by
    simp only [DataW.weights, hu] at h
    exact h n (DataW.weights_mem_each (by rw [List.getElem?_map, Array.getElem?_toList, hf]; rfl) hd n hn)
  array t n e ps hu h d hd k hk := by
    simp only [DataW.weights, hu] at h
    refine h k ?_
    clear h
    induction ps with
    | nil => cases hd
    | cons x r ih =>
      rw [DataW.weightsAll, List.mem_append]
      rcases List.mem_cons.1 hd with rfl | hd
      · exact .inl hk
      · exact .inr (ih hd)
theorem calls_of_spec {P : Program} {n : FuncId} {f : Func} (ts : List TypeId) (hp : f.params.toList = ts) (hl : ∀ t ∈ ts, liftable P 20 t = true) (h : ∀ (m : Mem) (vs : List Value), (∀ b, ¬ m.Own b) → ArgsOf P m reachBytes ts vs → Spec P n vs m fun u _ => u = .bool true)
    {H : Type} {enc : TypeId × Value → H} {W : World} {base : Nat} {args : Array Value} {ds : List (DataW H)} {ps : List MemPlace} (hg : GlobK W) (hval : ∀ (j : Nat) t v, f.params[j]? = some t → args[j]? = some v → Value.okWide P W .any base t v)
    (hA : DataW.TrodAll enc P W 0 (fun _ => true) true f.params.toList args.toList ds ps) (hk : ∀ x ∈ DataW.weightsEach P f.params.toList ds, x ≤ reachBytes) : Calls P n args W fun e W' => e = .returned (.bool true) ∧ Below W.heap.size W W' := by
  rw [hp] at hA hk
  obtain ⟨κ, m, vs, g1, g2, g3, g4⟩ := lift_args (closed_sized P) (b2 := base) ts args.toList ds ps hl (fun j t v hj hv => hval j t v (by rw [← hp] at hj; simpa using hj) (by simpa using hv)) hA
    (fun j t d hj hd x hx => hk x (DataW.weights_mem_each hj hd x hx)) _ _ (Lifted.nil W hg)
  exact Spec.calls rfl (h m vs g1.ro g3) g1 g4
end Go.Proofs.YtfdijpacbhomjaaGreatDoor.Abs
namespace Go.Proofs.YtfdijpacbhomjaaGreatDoor
open Go.ChangeShapes Go.WideShapes Go.ChangeAt Go.RowKit Abs
theorem returns_of_walked_card {C : Checked} {os : Os} {n : FuncId} {f : Func} {s : ChangeSpec} {tb : TypeId} {laid : List (String × DataW Unit)} (own : ownKnob C.prog.godebug = none) (started : os.Started)
    (noInit : C.prog.inits.idxOf? n = none) (hf : C.prog.funcs[n]? = some f) (hl : laidOutB C.prog = true)
    (hs : IsLaw s f.params.size) (hr : f.resultTypes = #[tb]) (hu : C.prog.underlying tb = some .bool) (hp : ∀ t ∈ f.params.toList, C.prog.readableRec t = true ∧ t < C.prog.types.size)
    (hpl : (laid.all fun x => x.2.handleName?.isNone) = true)
    {H : Type} {enc : TypeId × Value → H} (F : Stop.Interp)
    (witness : ∃ (w : World) (tape : Tape) (i : Input), w.os = os ∧ (w.forCall tape i).Shaped C.prog ∧ i.vars = [] ∧ Input.okWide C.prog (w.forCall tape i) .any w.heap.size n i ∧
      (OpenSpec.ofChange s).preRow enc C.prog f [] false laid (w.forCall tape i).memory i.args ∧ Assume.holds {} C.prog (lone (Frame.enter C.prog n i.args .normal) [] (w.forCall tape i)))
    (walk : ∀ (W : World) (base : Nat) (args : Array Value) (ds : List (DataW H)) (ps : List MemPlace), laidMet C.prog laid W → W.ShapedOpen C.prog → (∀ (j : Nat) t v, f.params[j]? = some t → args[j]? = some v → Value.okWide C.prog W .any base t v) →
      DataW.TrodAll enc C.prog W 0 (fun _ => true) true f.params.toList args.toList ds ps → (∀ x ∈ DataW.weightsEach C.prog f.params.toList ds, x ≤ reachBytes) →
      Calls C.prog n args W fun e W' => e = .returned (.bool true) ∧ Below W.heap.size W W') :
    ReturnsInHanded {} C os n .any ((OpenSpec.ofChange s).preRow enc C.prog f [] false laid) (((OpenSpec.ofChange s).at F).post enc C.prog f false true false false) := by
  refine returnsInHanded_of_row (C := C) (s := OpenSpec.ofChange s) own started noInit hf witness ?_
  intro W base args ds gs before hval hW _ _ hz hL hS _
  obtain ⟨p, q, hA, hV, rfl, hfz, hnd⟩ := id hW
  have hv : (OpenSpec.ofChange s).vars = [] := hs.1
  have hv0 : s.vars = [] := hs.1
  rw [hv] at hV
  obtain ⟨rfl, rfl⟩ := trodVars_none hV
  rw [List.append_nil] at hz
  have hz' : ∀ x ∈ DataW.weightsEach C.prog f.params.toList ds, x ≤ reachBytes := by
    have e : (OpenSpec.ofChange s).bare.plain.varTypes C.prog = [] := by
      show s.plain.varTypes C.prog = []
      simp [ChangeSpec.plain, hv0, DataSpec.varTypes]
    rw [e, List.append_nil] at hz
    intro x hx
    simpa using List.all_eq_true.1 hz x hx
  rw [MakeChecks.laidMetH_plain _ _ _ hpl] at hL
  refine (walk W base args ds p hL hS hval hA hz').mono fun e W' ⟨he, hb⟩ => ?_
  exact ⟨_, he, law_post hl hs hr hu hp hW hb⟩
end Go.Proofs.YtfdijpacbhomjaaGreatDoor
