/-
  The abstract machine's operations over trees: what they answer, the operations over lists answer.
  The abstract machine's operations over trees: those that look at the memory, and all of them together.
  The abstract machine as a function over trees: what is needed of drawn regions.
  The abstract machine as a function over trees: its operations, one after the other.
  The abstract machine as a function over trees: code and calls; what it says of the model.
  The abstract machine walked with unknowns: what is known of a frame; the rules, operation by operation.
  The abstract machine walked with unknowns: regions that draw their order; contracts turned into the machine's, and back.
  From worlds to the abstract memory: whatever data come in, they stand in a memory of blocks that nobody writes.
  The program's types in memory.
  SHA-256 as plain functions on lists of bytes. No program here.
-/
import Derived.Test.YtpmgackgcefalaaGreatPart03
import Derived.LoopN
import Derived.RowKit
import Derived.Test.YtpmgackgcefalaaGreatPart01
import Derived.SizedLaws
set_option linter.unusedSimpArgs false
set_option linter.unusedVariables false
set_option linter.unusedSectionVars false
set_option linter.unnecessarySimpa false
set_option linter.defProp false
namespace Go.Proofs.YtpmgackgcefalaaGreat.Abs
open Go
noncomputable def fEval (f : Fr) (x : Operand) : Option Value := match x with
  | .tmp t => f.t.get t
  | .const v => bif flat 3 v then some v else none
  | .func k => some (.func (.func k) #[] #[])
  | .global _ => none
theorem fEval_spec {f : Fr} {a : List Value} (h : FR f a) {x : Operand} {v : Value} (hv : fEval f x = some v) : aEval a x = some v := by
  cases x with
  | tmp t => exact h.2 t v hv
  | const c =>
    simp only [fEval] at hv
    simp only [aEval]
    cases hc : flat 3 c with
    | true => rw [hc] at hv; simpa using hv
    | false => rw [hc] at hv; cases hv
  | func k => exact hv
  | global g => cases hv
theorem wrap_small {n : Nat} (h : n < 9223372036854775808) : IntKind.i64.wrap (Int.ofNat n) = Int.ofNat n := by
  have e : IntKind.i64.bits = 64 := rfl
  have e2 : IntKind.i64.signed = true := rfl
  unfold IntKind.wrap
  simp only [e, e2, Bool.true_and, decide_eq_true_eq]
  have h1 : (Int.ofNat n) % (2 ^ 64 : Int) = Int.ofNat n := by
    have : (2 : Int) ^ 64 = 18446744073709551616 := by decide
    rw [this]
    simp only [Int.ofNat_eq_natCast]; omega
  rw [h1, if_neg]
  have : (2 : Int) ^ (64 - 1) = 9223372036854775808 := by decide
  rw [this]
  simp only [Int.ofNat_eq_natCast]; omega
noncomputable def fNat (op : BinOp) (a b : Nat) : Option Value :=
  match op with
  | .add => bif Nat.blt (Nat.add a b) 9223372036854775808 then some (.int .i64 (.ofNat (Nat.add a b))) else none
  | .sub => bif Nat.ble b a then some (.int .i64 (.ofNat (Nat.sub a b))) else none
  | .mul => bif Nat.blt (Nat.mul a b) 9223372036854775808 then some (.int .i64 (.ofNat (Nat.mul a b))) else none
  | .quo => bif Nat.beq b 0 then none else some (.int .i64 (.ofNat (Nat.div a b)))
  | .rem => bif Nat.beq b 0 then none else some (.int .i64 (.ofNat (Nat.mod a b)))
  | .and => some (.int .i64 (.ofNat (Nat.land a b)))
  | .or => some (.int .i64 (.ofNat (Nat.lor a b)))
  | .xor => some (.int .i64 (.ofNat (Nat.xor a b)))
  | .eql => some (.bool (Nat.beq a b))
  | .neq => some (.bool (Bool.not (Nat.beq a b)))
  | .lss => some (.bool (Nat.blt a b))
  | .leq => some (.bool (Nat.ble a b))
  | .gtr => some (.bool (Nat.blt b a))
  | .geq => some (.bool (Nat.ble b a))
  | .shl => bif Nat.blt b 64 then bif Nat.blt (Nat.mul a (Nat.pow 2 b)) 9223372036854775808 then some (.int .i64 (.ofNat (Nat.mul a (Nat.pow 2 b)))) else none else none
  | .shr => bif Nat.blt b 64 then some (.int .i64 (.ofNat (Nat.div a (Nat.pow 2 b)))) else none
  | _ => none
theorem blt_iff {a b : Nat} : Nat.blt a b = true ↔ a < b := by
  constructor
  · intro h; exact Nat.le_of_ble_eq_true h
  · intro h; exact Nat.ble_eq_true_of_le h
theorem blt_dec (a b : Nat) : Nat.blt a b = decide (a < b) := by
  rw [Bool.eq_iff_iff, blt_iff, decide_eq_true_eq]
theorem ble_dec (a b : Nat) : Nat.ble a b = decide (a ≤ b) := by
  rw [Bool.eq_iff_iff, Nat.ble_eq, decide_eq_true_eq]
theorem bits_and {a b : Nat} (ha : a < 9223372036854775808) (hb : b < 9223372036854775808) (F : (w : Nat) → BitVec w → BitVec w → BitVec w) (G : Nat → Nat → Nat) (hF : ∀ x y : BitVec 64, (F 64 x y).toNat = G x.toNat y.toNat) (hG : G a b < 9223372036854775808) :
    IntKind.i64.wrap (((F IntKind.i64.bits (BitVec.ofInt IntKind.i64.bits (Int.ofNat a)) (BitVec.ofInt IntKind.i64.bits (Int.ofNat b))).toNat : Nat) : Int) = Int.ofNat (G a b) := by
  show IntKind.i64.wrap (((F 64 (BitVec.ofInt 64 (Int.ofNat a)) (BitVec.ofInt 64 (Int.ofNat b))).toNat : Nat) : Int) = Int.ofNat (G a b)
  have h : ∀ n : Nat, n < 9223372036854775808 → (BitVec.ofInt 64 (Int.ofNat n)).toNat = n := fun n hn => by
    simp only [Int.ofNat_eq_natCast, BitVec.toNat_ofInt, Int.toNat_emod]
    omega
  rw [hF, h a ha, h b hb]
  exact wrap_small hG
theorem fNat_spec {op : BinOp} {a b : Nat} {v : Value} (h : fNat op a b = some v) (ha : a < 9223372036854775808) (hb : b < 9223372036854775808) (hop : op ≠ .shl ∧ op ≠ .shr) : aInt op .i64 (Int.ofNat a) (Int.ofNat b) = some v := by
  cases op <;> simp only [fNat] at h <;> first | (cases h; done) | skip
  case shl => exact absurd rfl hop.1
  case shr => exact absurd rfl hop.2
  case add =>
    cases hc : Nat.blt (Nat.add a b) 9223372036854775808 <;> rw [hc] at h <;> first | (cases h; done) | skip
    cases h
    have := wrap_small (blt_iff.1 hc)
    simp only [aInt]
    rw [← this]; rfl
  case sub =>
    cases hc : Nat.ble b a <;> rw [hc] at h <;> first | (cases h; done) | skip
    cases h
    have hle : b ≤ a := Nat.le_of_ble_eq_true hc
    have e : (Int.ofNat a - Int.ofNat b) = Int.ofNat (a - b) := by simp only [Int.ofNat_eq_natCast]; omega
    simp only [aInt]
    rw [e, wrap_small (by omega)]; rfl
  case mul =>
    cases hc : Nat.blt (Nat.mul a b) 9223372036854775808 <;> rw [hc] at h <;> first | (cases h; done) | skip
    cases h
    have := wrap_small (blt_iff.1 hc)
    simp only [aInt]
    rw [← this]; rfl
  case quo =>
    cases hc : Nat.beq b 0 <;> rw [hc] at h <;> first | (cases h; done) | skip
    cases h
    have h0 : b ≠ 0 := fun e => by subst e; cases hc
    simp only [aInt]
    rw [if_neg (by simp only [Int.ofNat_eq_natCast]; omega)]
    have e : (Int.ofNat a).tdiv (Int.ofNat b) = Int.ofNat (a / b) := rfl
    rw [e, wrap_small (Nat.lt_of_le_of_lt (Nat.div_le_self a b) ha)]; rfl
  case rem =>
    cases hc : Nat.beq b 0 <;> rw [hc] at h <;> first | (cases h; done) | skip
    cases h
    have h0 : b ≠ 0 := fun e => by subst e; cases hc
    simp only [aInt]
    rw [if_neg (by simp only [Int.ofNat_eq_natCast]; omega)]
    rfl
  case and =>
    cases h
    simp only [aInt]
    have e := bits_and ha hb (fun _ x y => x &&& y) (fun x y => x &&& y) (fun x y => BitVec.toNat_and x y) (Nat.lt_of_le_of_lt Nat.and_le_left ha)
    exact congrArg (fun x => some (Value.int .i64 x)) e
  case or =>
    cases h
    simp only [aInt]
    have e := bits_and ha hb (fun _ x y => x ||| y) (fun x y => x ||| y) (fun x y => BitVec.toNat_or x y) (Nat.or_lt_two_pow (n := 63) ha hb)
    exact congrArg (fun x => some (Value.int .i64 x)) e
  case xor =>
    cases h
    simp only [aInt]
    have e := bits_and ha hb (fun _ x y => x ^^^ y) (fun x y => x ^^^ y) (fun x y => BitVec.toNat_xor x y) (Nat.xor_lt_two_pow (n := 63) ha hb)
    exact congrArg (fun x => some (Value.int .i64 x)) e
  case eql =>
    cases h
    simp only [aInt]
    congr 2
    rw [Bool.eq_iff_iff]
    simp only [beq_iff_eq, Nat.beq_eq, Int.ofNat_eq_natCast]
    omega
  case neq =>
    cases h
    simp only [aInt]
    congr 2
    have e : (Int.ofNat a == Int.ofNat b) = Nat.beq a b := by
      rw [Bool.eq_iff_iff]
      simp only [beq_iff_eq, Nat.beq_eq, Int.ofNat_eq_natCast]
      omega
    rw [bne, e]
  all_goals
    cases h
    simp only [aInt, blt_dec, ble_dec]
    congr 2
    rw [Bool.eq_iff_iff]
    simp
noncomputable def fBin (P : Program) (op : BinOp) (t : TypeId) (cx : Bool) (x y : Value) : Option Value :=
  match x, y with
  | .int .i64 (.ofNat a), .int .i64 (.ofNat b) => bif Nat.blt a 9223372036854775808 then bif Nat.blt b 9223372036854775808 then match fNat op a b with
      | some v => some v
      | none => aBin P op t cx (.int .i64 (.ofNat a)) (.int .i64 (.ofNat b))
    else aBin P op t cx (.int .i64 (.ofNat a)) (.int .i64 (.ofNat b))
    else aBin P op t cx (.int .i64 (.ofNat a)) (.int .i64 (.ofNat b))
  | x, y => aBin P op t cx x y
theorem fBin_eq {P : Program} {op : BinOp} {t : TypeId} {cx : Bool} {x y v : Value} (h : fBin P op t cx x y = some v) : aBin P op t cx x y = some v := by
  unfold fBin at h
  split at h
  · rename_i a b
    cases ha : Nat.blt a 9223372036854775808 <;> rw [ha] at h <;> first | exact h | skip
    cases hb : Nat.blt b 9223372036854775808 <;> rw [hb] at h <;> first | exact h | skip
    simp only [cond_true] at h
    split at h
    · rename_i u hu
      cases h
      have ha := blt_iff.1 ha
      have hb := blt_iff.1 hb
      by_cases hop : op ≠ .shl ∧ op ≠ .shr
      · have := fNat_spec hu ha hb hop
        cases op <;> simp only [aBin, if_true] <;> first | exact this | (exact absurd rfl hop.1) | (exact absurd rfl hop.2)
      · have e : op = .shl ∨ op = .shr := by cases op <;> simp_all
        rcases e with rfl | rfl
        · simp only [fNat] at hu
          cases hc : Nat.blt b 64 <;> rw [hc] at hu <;> first | (cases hu; done) | skip
          simp only [cond_true] at hu
          cases hd : Nat.blt (Nat.mul a (Nat.pow 2 b)) 9223372036854775808 <;> rw [hd] at hu <;> first | (cases hu; done) | skip
          cases hu
          have hc := blt_iff.1 hc
          have hd := blt_iff.1 hd
          simp only [aBin]
          rw [if_pos (by simp only [Int.ofNat_eq_natCast]; omega)]
          have e1 : min (Int.ofNat b).toNat IntKind.i64.bits = b := by
            have : IntKind.i64.bits = 64 := rfl
            rw [this]
            simp only [Int.ofNat_eq_natCast, Int.toNat_natCast]; omega
          rw [e1]
          have e2 : Int.ofNat a * 2 ^ b = Int.ofNat (Nat.mul a (Nat.pow 2 b)) := by
            simp only [Int.ofNat_eq_natCast, Nat.mul_eq, Nat.pow_eq, Int.natCast_mul, Int.natCast_pow]; rfl
          rw [e2, wrap_small hd]
        · simp only [fNat] at hu
          cases hc : Nat.blt b 64 <;> rw [hc] at hu <;> first | (cases hu; done) | skip
          cases hu
          have hc := blt_iff.1 hc
          simp only [aBin]
          rw [if_pos (by simp only [Int.ofNat_eq_natCast]; omega)]
          have e1 : min (Int.ofNat b).toNat IntKind.i64.bits = b := by
            have : IntKind.i64.bits = 64 := rfl
            rw [this]
            simp only [Int.ofNat_eq_natCast, Int.toNat_natCast]; omega
          rw [e1]
          have e2 : (2 : Int) ^ b = Int.ofNat (2 ^ b) := by simp only [Int.ofNat_eq_natCast, Int.natCast_pow]; rfl
          rw [e2]
          have e3 : (Int.ofNat a).fdiv (Int.ofNat (2 ^ b)) = Int.ofNat (a / 2 ^ b) := (Int.ofNat_fdiv a (2 ^ b)).symm
          rw [e3]; rfl
    · exact h
  · exact h
end Go.Proofs.YtpmgackgcefalaaGreat.Abs
namespace Go.Proofs.YtpmgackgcefalaaGreat.Abs
open Go
section
variable (P : Program) (get : Nat → Option Blk)
def gLoad (t : TypeId) (p : Value) : Option Value :=
  match p with
  | .pointer (some ⟨b, o, none⟩) => match get b with
    | some (.cells _ _ cs) => match P.underlying t with
      | none => none
      | some d => if d.isRow then match P.info? t with
          | some i => if o + i.size ≤ cs.length then some (.agg ((cs.drop o).take i.size).toArray) else none
          | none => none
        else cs[o]?
    | none => none
  | _ => none
def gToString (src dst : TypeId) (x : Value) : Option Value :=
  match P.underlying src with
  | some (.slice e) => match P.underlying dst with
    | some .string => match P.underlying e with
      | some (.int .u8) => match x with
        | .slice none 0 0 => some (.string ⟨#[]⟩)
        | .slice (some ⟨b, o, none⟩) n _ => match get b with
          | some (.cells _ _ cs) => if o + n ≤ cs.length then match cellBytes ((cs.drop o).take n) with
              | some l => some (.string ⟨⟨l⟩⟩)
              | none => none
            else none
          | none => none
        | _ => none
      | _ => none
    | _ => none
  | _ => none
def gSrc (tx : TypeId) (size : Nat) (x : Value) : Option (Nat × List Value) :=
  match P.underlying tx with
  | some (.slice _) => match x with
    | .slice none 0 0 => some (0, [])
    | .slice (some ⟨b, o, none⟩) n _ => match get b with
      | some (.cells _ _ cs) => if o + n * size ≤ cs.length then some (n, (cs.drop o).take (n * size)) else none
      | none => none
    | _ => none
  | some .string => match x with
    | .string s => if size = 1 then some (bsize s, byteCells' s) else none
    | _ => none
  | _ => none
def gSlice (t : TypeId) (x : Value) (lo hi : Option Value) : Option Value :=
  match P.underlying t with
  | some .string => match x with
    | .string s => match aBound (bsize s) (bsize s) lo hi with
      | some (l, h) => some (.string (bsub s l h))
      | none => none
    | _ => none
  | some (.slice e) => match P.info? e with
    | none => none
    | some i => match x with
      | .slice none 0 0 => match aBound 0 0 lo hi with
        | some _ => some (.slice none 0 0)
        | none => none
      | .slice (some ⟨b, o, none⟩) len cap => match aBound len cap lo hi with
        | some (l, h) => match get b with
          | some (.cells _ s _) => if s = i.size then some (.slice (some ⟨b, o + l * i.size, none⟩) (h - l) (cap - l)) else none
          | _ => none
        | none => none
      | _ => none
  | some (.array n e) => match P.info? e with
    | none => none
    | some i => match x with
      | .pointer (some ⟨b, o, none⟩) => match aBound n n lo hi with
        | some (l, h) => if l < n then some (.slice (some ⟨b, o + l * i.size, none⟩) (h - l) (n - l)) else none
        | none => none
      | _ => none
  | _ => none
end
section
variable {P : Program} {get get' : Nat → Option Blk} (hg : ∀ b x, get b = some x → get' b = some x)
include hg
theorem gLoad_mono {t : TypeId} {p v : Value} (h : gLoad P get t p = some v) : gLoad P get' t p = some v := by
  unfold gLoad at h ⊢
  split at h <;> first | (cases h; done) | skip
  rename_i b o
  cases hb : get b with
  | none => rw [hb] at h; cases h
  | some x => rw [hb] at h; simp only [hg b x hb]; exact h
theorem gToString_mono {s d : TypeId} {p v : Value} (h : gToString P get s d p = some v) : gToString P get' s d p = some v := by
  unfold gToString at h ⊢
  split at h <;> first | (cases h; done) | skip
  split at h <;> first | (cases h; done) | skip
  split at h <;> first | (cases h; done) | skip
  split at h <;> first | (cases h; done) | skip
  · exact h
  · rename_i b o n _
    cases hb : get b with
    | none => rw [hb] at h; cases h
    | some x => rw [hb] at h; simp only [hg b x hb]; exact h
theorem gSrc_mono {t : TypeId} {n : Nat} {p : Value} {v : Nat × List Value} (h : gSrc P get t n p = some v) : gSrc P get' t n p = some v := by
  unfold gSrc at h ⊢
  split at h <;> first | (cases h; done) | skip
  · split at h <;> first | (cases h; done) | skip
    · exact h
    · rename_i b o n _
      cases hb : get b with
      | none => rw [hb] at h; cases h
      | some x => rw [hb] at h; simp only [hg b x hb]; exact h
  · exact h
theorem gSlice_mono {t : TypeId} {x v : Value} {lo hi : Option Value} (h : gSlice P get t x lo hi = some v) : gSlice P get' t x lo hi = some v := by
  unfold gSlice at h ⊢
  split at h <;> first | (cases h; done) | skip
  · exact h
  · split at h <;> first | (cases h; done) | skip
    split at h <;> first | (cases h; done) | skip
    · exact h
    · split at h <;> first | (cases h; done) | skip
      rename_i b o len cap _ l h' _
      cases hb : get b with
      | none => rw [hb] at h; cases h
      | some x => rw [hb] at h; simp only [hg b x hb]; exact h
  · exact h
end
section
variable (P : Program) (m : FMem)
noncomputable def fBox (t : TypeId) (v : Value) : Option (Value × FMem) :=
  bif oneAll v.cells.toList then some (.pointer (some ⟨m.n, 0, none⟩), m.push (.cells false (aStride P t) v.cells.toList)) else none
noncomputable def fAlloc (t : TypeId) : Option (Value × FMem) :=
  match P.info? t with
  | some i => match i.zero with
    | some z => bif flat 3 z then fBox P m t z else none
    | none => none
  | none => none
noncomputable def fStore (t : TypeId) (p v : Value) : Option FMem :=
  match p with
  | .pointer (some ⟨b, o, none⟩) => match m.get b with
    | some (.cells false s cs) => match P.info? t with
      | some i => if v.cells.toList.length = i.size ∧ o + v.cells.toList.length ≤ cs.length ∧ oneAll v.cells.toList = true then spine (setL cs o v.cells.toList) fun l => some (m.put b (some (.cells false s l))) else none
      | none => none
    | _ => none
  | _ => none
noncomputable def fBuildSlice (t : TypeId) (len : Nat) (parts : List (Nat × Value)) : Option (Value × FMem) :=
  match P.underlying t with
  | some (.slice e) => match P.info? e with
    | some ie => match ie.zero with
      | some z => if flat 3 z = true ∧ len * ie.size ≤ 16777216 ∧ 0 < len * ie.size ∧ 0 < z.cells.toList.length ∧ oneAll z.cells.toList = true ∧ parts.all (fun p => oneAll p.2.cells.toList) = true then
          match aFill (fun i => some (i * ie.size, ie.size)) (aZeros z.cells.toList (len * ie.size)) parts with
          | some cs => spine cs fun cs => some (.slice (some ⟨m.n, 0, none⟩) len len, m.push (.cells false ie.size cs))
          | none => none
        else none
      | none => none
    | none => none
  | _ => none
noncomputable def fMakeSlice (t : TypeId) (l c : Value) : Option (Value × FMem) :=
  match P.underlying t with
  | some (.slice e) => match P.info? e with
    | some ie => match ie.zero with
      | some z => match l, c with
        | .int _ l, .int _ c => if flat 3 z = true ∧ 0 < z.cells.toList.length ∧ oneAll z.cells.toList = true ∧ 0 ≤ l ∧ l ≤ c ∧ (ie.bytes : Int) * c ≤ 281474976710656 ∧ c ≤ 281474976710656 then
            spine (aZeros z.cells.toList (c.toNat * ie.size)) fun cs => some (.slice (some ⟨m.n, 0, none⟩) l.toNat c.toNat, m.push (.cells false ie.size cs))
          else none
        | _, _ => none
      | none => none
    | none => none
  | _ => none
noncomputable def fToBytes (src dst : TypeId) (s : ByteArray) : Option (Value × FMem) :=
  match P.underlying src with
  | some .string => match P.underlying dst with
    | some (.slice e) => match P.underlying e with
      | some (.int .u8) => if bsize s ≤ 140737488355328 then forceL (forceV 1) (byteCells' s) fun l => some (.slice (some ⟨m.n, 0, none⟩) (bsize s) (bsize s), m.push (.cells false 1 l)) else none
      | _ => none
    | _ => none
  | _ => none
noncomputable def fAppend (t tx : TypeId) (s x : Value) : Option (Value × FMem) :=
  match P.underlying t with
  | some (.slice e) => match P.info? e with
    | some i => match i.zero with
      | some z => if z.cells.toList.length = i.size then match gSrc P m.get tx i.size x with
        | some (n, news) => match s with
          | .slice none 0 0 => if n = 0 then some (.slice none 0 0, m) else if n * i.bytes ≤ 140737488355328 ∧ n ≤ 140737488355328 then
              forceL (forceV 1) news fun news => some (.slice (some ⟨m.n, 0, none⟩) n n, m.push (.cells false i.size news)) else none
          | .slice (some ⟨b, o, none⟩) len cap =>
            if n = 0 then some (.slice (some ⟨b, o, none⟩) len cap, m) else
            match m.get b with
            | some (.cells false st cs) =>
              if len + n ≤ cap then
                if o + len * i.size + news.length ≤ cs.length then forceL (forceV 1) (setL cs (o + len * i.size) news) fun l => some (.slice (some ⟨b, o, none⟩) (len + n) cap, m.put b (some (.cells false st l))) else none
              else if o + len * i.size ≤ cs.length ∧ st = i.size ∧ (len + n) * i.bytes ≤ 140737488355328 ∧ len + n ≤ 140737488355328 then
                forceL (forceV 1) ((cs.drop o).take (len * i.size) ++ news) fun l => some (.slice (some ⟨m.n, 0, none⟩) (len + n) (len + n), (m.put b none).push (.cells false i.size l))
              else none
            | _ => none
          | _ => none
        | none => none
        else none
      | none => none
    | none => none
  | _ => none
end
theorem cells_eq (l : List Value) {α : Type} (k : List Value → α) : forceL (forceV 1) l k = k l := forceL_eq (forceV_eq 1) l k
section
variable {P : Program} {f f' : FMem} {m : Mem} (h : MR f m)
include h
theorem fBox_spec {t : TypeId} {v u : Value} (hx : fBox P f t v = some (u, f')) : ∃ m', aBox P m t v = some (u, m') ∧ MR f' m' := by
  unfold fBox at hx
  unfold aBox
  cases hc : oneAll v.cells.toList with
  | false => rw [hc] at hx; cases hx
  | true =>
    rw [hc] at hx
    cases hx
    rw [if_pos rfl, h.1]
    exact ⟨_, rfl, h.push _⟩
theorem fAlloc_spec {t : TypeId} {u : Value} (hx : fAlloc P f t = some (u, f')) : ∃ m', aAlloc P m t = some (u, m') ∧ MR f' m' := by
  unfold fAlloc at hx
  unfold aAlloc
  split at hx <;> first | (cases hx; done) | skip
  rename_i i hi
  split at hx <;> first | (cases hx; done) | skip
  rename_i z hz
  cases hc : flat 3 z with
  | false => rw [hc] at hx; cases hx
  | true =>
    rw [hc] at hx
    simp only [hi, hz, hc, if_true]
    exact fBox_spec h hx
theorem fStore_spec {t : TypeId} {p v : Value} (hx : fStore P f t p v = some f') : ∃ m', aStore P m t p v = some m' ∧ MR f' m' := by
  unfold fStore at hx
  unfold aStore
  split at hx <;> first | (cases hx; done) | skip
  split at hx <;> first | (cases hx; done) | skip
  rename_i hb
  split at hx <;> first | (cases hx; done) | skip
  rename_i i hi
  split at hx <;> first | (cases hx; done) | skip
  rename_i hc
  rw [spine_eq] at hx
  cases hx
  simp only [h.2.2 _ _ hb, hi, if_pos hc]
  exact ⟨_, rfl, h.put hb _⟩
theorem fBuildSlice_spec {t : TypeId} {n : Nat} {l : List (Nat × Value)} {u : Value} (hx : fBuildSlice P f t n l = some (u, f')) : ∃ m', aBuildSlice P m t n l = some (u, m') ∧ MR f' m' := by
  unfold fBuildSlice at hx
  unfold aBuildSlice
  split at hx <;> first | (cases hx; done) | skip
  rename_i e hu
  split at hx <;> first | (cases hx; done) | skip
  rename_i hi
  split at hx <;> first | (cases hx; done) | skip
  rename_i hz
  split at hx <;> first | (cases hx; done) | skip
  rename_i hc
  split at hx <;> first | (cases hx; done) | skip
  rename_i cs hcs
  rw [spine_eq] at hx
  cases hx
  simp only [hu, hi, hz, if_pos hc, hcs, h.1]
  exact ⟨_, rfl, h.push _⟩
theorem fMakeSlice_spec {t : TypeId} {x y u : Value} (hx : fMakeSlice P f t x y = some (u, f')) : ∃ m', aMakeSlice P m t x y = some (u, m') ∧ MR f' m' := by
  unfold fMakeSlice at hx
  unfold aMakeSlice
  split at hx <;> first | (cases hx; done) | skip
  rename_i e hu
  split at hx <;> first | (cases hx; done) | skip
  rename_i hi
  split at hx <;> first | (cases hx; done) | skip
  rename_i hz
  split at hx <;> first | (cases hx; done) | skip
  split at hx <;> first | (cases hx; done) | skip
  rename_i hc
  rw [spine_eq] at hx
  cases hx
  simp only [hu, hi, hz, if_pos hc, h.1]
  exact ⟨_, rfl, h.push _⟩
theorem fToBytes_spec {s d : TypeId} {x : ByteArray} {u : Value} (hx : fToBytes P f s d x = some (u, f')) : ∃ m', aToBytes P m s d x = some (u, m') ∧ MR f' m' := by
  unfold fToBytes at hx
  unfold aToBytes
  split at hx <;> first | (cases hx; done) | skip
  rename_i hs
  split at hx <;> first | (cases hx; done) | skip
  rename_i hd
  split at hx <;> first | (cases hx; done) | skip
  rename_i he
  split at hx <;> first | (cases hx; done) | skip
  rename_i hc
  rw [cells_eq] at hx
  cases hx
  simp only [hs, hd, he, if_pos hc, h.1]
  exact ⟨_, rfl, h.push _⟩
theorem fAppend_spec {t tx : TypeId} {s x u : Value} (hx : fAppend P f t tx s x = some (u, f')) : ∃ m', aAppend P m t tx s x = some (u, m') ∧ MR f' m' := by
  unfold fAppend at hx
  unfold aAppend
  split at hx <;> first | (cases hx; done) | skip
  rename_i e hu
  split at hx <;> first | (cases hx; done) | skip
  rename_i hi
  split at hx <;> first | (cases hx; done) | skip
  rename_i hz
  split at hx <;> first | (cases hx; done) | skip
  rename_i hl
  split at hx <;> first | (cases hx; done) | skip
  rename_i n news hsrc
  have hs : aSrc P m tx _ x = some (n, news) := gSrc_mono h.2.2 hsrc
  simp only [hu, hi, hz, if_pos hl, hs]
  split at hx <;> first | (cases hx; done) | skip
  · split at hx
    · rename_i hn; cases hx; simp only [if_pos hn]; exact ⟨_, rfl, h⟩
    · rename_i hn
      split at hx <;> first | (cases hx; done) | skip
      rename_i hb
      rw [cells_eq] at hx
      cases hx
      simp only [if_neg hn, if_pos hb, h.1]
      exact ⟨_, rfl, h.push _⟩
  · split at hx
    · rename_i hn; cases hx; simp only [if_pos hn]; exact ⟨_, rfl, h⟩
    · rename_i hn
      split at hx <;> first | (cases hx; done) | skip
      rename_i hb
      simp only [if_neg hn, h.2.2 _ _ hb]
      split at hx
      · rename_i hc
        split at hx <;> first | (cases hx; done) | skip
        rename_i hd
        rw [cells_eq] at hx
        cases hx
        simp only [if_pos hc, if_pos hd]
        exact ⟨_, rfl, h.put hb _⟩
      · rename_i hc
        split at hx <;> first | (cases hx; done) | skip
        rename_i hd
        rw [cells_eq] at hx
        cases hx
        simp only [if_neg hc, if_pos hd, h.1]
        exact ⟨_, rfl, (h.put hb none).push _⟩
end
end Go.Proofs.YtpmgackgcefalaaGreat.Abs
namespace Go.Proofs.YtpmgackgcefalaaGreat.Abs
open Go
def At (e : Exit) (a : List Value) (m : Mem) : Exit → List Value → Mem → Prop := fun e1 a1 m1 => e1 = e ∧ a1 = a ∧ m1 = m
def getV (vs : List Value) (k : Nat) : Value := (vs[k]?).getD undef
def getN (Ns : List (List (Option Blk))) (k : Nat) : List (Option Blk) := (Ns[k]?).getD []
theorem OpSim.congr {P : Program} {o : Oper} {a b : List Value} {m : Mem} {R : Value → Mem → Prop} (h : OpSim P o a m R) (he : ∀ x ∈ o.op.operands, aEval b x = aEval a x) : OpSim P o b m R :=
  fun c ι act act2 w K Q hbc => h c ι act act2 w K Q fun x hx => by rw [← he x hx]; exact hbc x hx
theorem frameAt_congr {ops : Array Oper} {v u : Nat → Value} {S : Nat → Bool} {a : List Value} : ∀ n, (∀ k, k < n → v k = u k) → frameAt ops v S a n = frameAt ops u S a n
  | 0, _ => rfl
  | n + 1, h => by simp only [frameAt, frameAt_congr n fun k hk => h k (by omega), h n (by omega)]
theorem newsAt_congrN {N N' : Nat → List (Option Blk)} {S : Nat → Bool} : ∀ n, (∀ k, k < n → N k = N' k) → newsAt N S n = newsAt N' S n
  | 0, _ => rfl
  | n + 1, h => by simp only [newsAt, newsAt_congrN n fun k hk => h k (by omega), h n (by omega)]
theorem DOp_congr {P : Program} {ops : Array Oper} {a : List Value} {m : Mem} {v u : Nat → Value} {N N' : Nat → List (Option Blk)} {k : Nat} {o : Oper} (hv : ∀ j, j ≤ k → v j = u j) (hN : ∀ j, j ≤ k → N j = N' j) (h : DOp P ops a m v N k o) : DOp P ops a m u N' k o := by
  unfold DOp memOf memB frB memAt at *
  rw [← frameAt_congr k fun j hj => hv j (by omega), ← newsAt_congrN k fun j hj => hN j (by omega), ← hv k (Nat.le_refl _), ← hN k (Nat.le_refl _)]
  exact h
theorem getV_append {vs : List Value} {v : Value} {j : Nat} : getV (vs ++ [v]) j = if j < vs.length then getV vs j else if j = vs.length then v else undef := by
  unfold getV
  rw [List.getElem?_append]
  split
  · rfl
  · rename_i h
    by_cases e : j = vs.length
    · subst e; simp
    · rw [if_neg e, List.getElem?_eq_none (by simp; omega)]; rfl
theorem getN_append {Ns : List (List (Option Blk))} {N : List (Option Blk)} {j : Nat} : getN (Ns ++ [N]) j = if j < Ns.length then getN Ns j else if j = Ns.length then N else [] := by
  unfold getN
  rw [List.getElem?_append]
  split
  · rfl
  · rename_i h
    by_cases e : j = Ns.length
    · subst e; simp
    · rw [if_neg e, List.getElem?_eq_none (by simp; omega)]; rfl
theorem slot_all {ops : Array Oper} {a : List Value} {v : Nat → Value} {q i : Nat} {o : Oper} (hap : apartAll ops (befM ops.toList) q = true) (hiq : i < q) (hqs : q ≤ ops.size) (hi : ops[i]? = some o) {t : Nat} (ht : t ∈ o.looksAt ops) :
    (frB ops a v i)[t]? = (frameAt ops v allS a i)[t]? := by
  refine frameAt_get t i fun k hk hdst => ?_
  cases hb : B ops i k
  · have hok : ops[k]? = some ops[k] := Array.getElem?_eq_getElem (by omega)
    rw [hok] at hdst
    exact absurd ht ((Oper.apart_spec (apartAll_spec hap hk hiq hok hi hb)).1 t hdst)
  · rfl
theorem app_of_ext {M M' : Mem} (he : Ext M.freeze M') : ∃ N : List (Option Blk), M' = M.freeze.app N ∧ N.all ownB = true := by
  have hN : ∃ N : List (Option Blk), M'.blks.drop M.size = N.map some ∧ N.all ownB = true := by
    have hall : ∀ x ∈ M'.blks.drop M.size, ∃ o, x = some o ∧ ownB o = true := by
      intro x hx
      obtain ⟨i, hi, rfl⟩ := List.getElem_of_mem hx
      rw [List.length_drop] at hi
      obtain ⟨o, h1, h2⟩ := he.2.2 (M.size + i) (by rw [freeze_size]; omega) (by simp only [Mem.size] at *; omega)
      refine ⟨o, ?_, h2⟩
      rw [List.getElem_drop]
      have := List.getElem?_eq_getElem (l := M'.blks) (i := M.size + i) (by simp only [Mem.size] at *; omega)
      rw [this] at h1
      exact Option.some.inj h1
    generalize M'.blks.drop M.size = l at hall
    induction l with
    | nil => exact ⟨[], rfl, rfl⟩
    | cons x r ih =>
      obtain ⟨N, h1, h2⟩ := ih fun y hy => hall y (List.mem_cons_of_mem _ hy)
      obtain ⟨o, rfl, ho⟩ := hall x List.mem_cons_self
      exact ⟨o :: N, by rw [h1]; rfl, by simp only [List.all_cons, ho, h2, Bool.and_self]⟩
  obtain ⟨N, h1, h2⟩ := hN
  refine ⟨N, ?_, h2⟩
  have : M'.blks = M.freeze.blks ++ N.map some := by
    have hsz := he.1
    rw [freeze_size] at hsz
    rw [← h1]
    apply List.ext_getElem?
    intro b
    rw [List.getElem?_append]
    have e0 : M.freeze.blks.length = M.size := freeze_size M
    by_cases hb : b < M.size
    · rw [if_pos (by omega)]
      rcases he.2.1 b (by rw [freeze_size]; exact hb) with h | ⟨h, _⟩
      · exact h
      · exact absurd h (freeze_own M b)
    · rw [if_neg (by omega), List.getElem?_drop, e0, show M.size + (b - M.size) = b by omega]
  unfold Mem.app
  rw [← this]
theorem memAt_ext (m : Mem) (N : Nat → List (Option Blk)) (q : Nat) (hN : ∀ k, k < q → (N k).all ownB = true) : Ext m (memAt m N allS q) := by
  refine ⟨by simp [Mem.size, memAt], fun b hb => .inl ?_, fun b h1 h2 => ?_⟩
  · simp only [Mem.size] at hb
    simp [memAt, List.getElem?_append, hb]
  · have hin : ∀ n p, p < (newsAt N allS n).length → (∀ k, k < n → (N k).all ownB = true) → ∃ o, (newsAt N allS n)[p]? = some (some o) ∧ ownB o = true := by
      intro n
      induction n with
      | zero => intro p hp _; simp [newsAt] at hp
      | succ n ih =>
        intro p hp hN
        simp only [newsAt] at hp ⊢
        rw [List.getElem?_append]
        split
        · rename_i hlt
          exact ih p hlt fun k hk => hN k (by omega)
        · rename_i hge
          rw [List.getElem?_map]
          have hl : p - (newsAt N allS n).length < (N n).length := by simp at hp; omega
          rw [List.getElem?_eq_getElem hl]
          exact ⟨_, by simp [allS], List.all_eq_true.1 (hN n (by omega)) _ (List.getElem_mem hl)⟩
    unfold memAt at h2 ⊢
    simp only [Mem.size, List.length_append] at h1 h2
    simp only
    rw [List.getElem?_append, if_neg (by omega)]
    exact hin q _ (by omega) hN
theorem memAt_succ (m : Mem) (N : Nat → List (Option Blk)) (k : Nat) : memAt m N allS (k + 1) = (memAt m N allS k).app (N k) := by
  unfold memAt Mem.app
  simp [newsAt, allS]
end Go.Proofs.YtpmgackgcefalaaGreat.Abs
namespace Go.Proofs.YtpmgackgcefalaaGreat.Abs
open Go
abbrev Look := Operand → Option Value
noncomputable def fArgs (g : Look) (l : List Operand) : Option (List Value) :=
  List.rec (motive := fun _ => Option (List Value)) (some []) (fun x _ ih => match g x with
    | some v => match ih with
      | some r => some (v :: r)
      | none => none
    | none => none) l
noncomputable def fParts (g : Look) (l : List (Nat × Operand)) : Option (List (Nat × Value)) :=
  List.rec (motive := fun _ => Option (List (Nat × Value))) (some []) (fun p _ ih => match g p.2 with
    | some v => match ih with
      | some r => some ((p.1, v) :: r)
      | none => none
    | none => none) l
def fOpt (g : Look) (x : Option Operand) : Option (Option Value) := match x with
  | none => some none
  | some x => match g x with | some v => some (some v) | none => none
def vPick (c x y : Option Value) : Option Value := match c with
  | some (.bool true) => x
  | some (.bool false) => y
  | _ => none
def vBuild (P : Program) (t : TypeId) (l : Option (List (Nat × Value))) : Option Value := match l with
  | some l => aBuild P t l
  | none => none
def vLoad (P : Program) (get : Nat → Option Blk) (t : TypeId) (p : Option Value) : Option Value := match p with
  | some p => gLoad P get t p
  | none => none
def vNil (x : Option Value) : Option Value := match x with
  | some (.pointer (some q)) => some (.pointer (some q))
  | some (.func (.func f) xs ys) => some (.func (.func f) xs ys)
  | _ => none
noncomputable def vBin (P : Program) (op : BinOp) (t : TypeId) (cx : Bool) (x y : Option Value) : Option Value := match x with
  | some u => match y with
    | some v => fBin P op t cx u v
    | none => none
  | none => none
def vUn (op : UnOp) (x : Option Value) : Option Value := match x with
  | some v => aUn op v
  | none => none
noncomputable def vToInt (k : IntKind) (n : Int) : Value := match k, n with
  | .i64, .ofNat n => bif Nat.blt n 9223372036854775808 then .int .i64 (.ofNat n) else .int .i64 (IntKind.i64.wrap (.ofNat n))
  | .u8, .ofNat n => .int .u8 (.ofNat (Nat.mod n 256))
  | k, n => .int k (k.wrap n)
noncomputable def vConv (P : Program) (get : Nat → Option Blk) (s d : TypeId) (x : Option Value) : Option Value := match x with
  | some (.int _ n) => match P.underlying s with
    | some _ => match P.underlying d with
      | some (.int k) => some (vToInt k n)
      | _ => none
    | none => none
  | some (.string q) => match P.underlying d with
    | some .string => match P.underlying s with | some _ => some (.string q) | none => none
    | _ => none
  | some x => gToString P get s d x
  | none => none
def vIface (P : Program) (t : TypeId) (x : Option Value) : Option Value := match x with
  | some v => match P.underlying t with
    | some (.interface _) => none
    | some _ => some (.iface t v)
    | none => none
  | none => none
def vFunc (fn : Fn) (l r : Option (List Value)) : Option Value := match fn with
  | .func f => match l with
    | some l => match r with
      | some r => some (.func (.func f) l.toArray r.toArray)
      | none => none
    | none => none
  | _ => none
def vSlice (P : Program) (get : Nat → Option Blk) (t : TypeId) (x : Option Value) (lo hi : Option (Option Value)) (mx : Option Operand) : Option Value := match mx with
  | none => match x with
    | some x => match lo with
      | some lo => match hi with
        | some hi => gSlice P get t x lo hi
        | none => none
      | none => none
    | none => none
  | some _ => none
def vFieldAddr (P : Program) (t : TypeId) (x : Option Value) (f : Nat) : Option Value := match x with
  | some v => aFieldAddr P t v f
  | none => none
def vField (P : Program) (t : TypeId) (x : Option Value) (f : Nat) : Option Value := match x with
  | some (.agg cs) => match P.underlying t with
    | some (.struct fs) => match fs.toList[f]? with
      | some fd => aPart P fd.type cs.toList fd.offset
      | none => none
    | _ => none
  | _ => none
def vIndexAddr (P : Program) (t : TypeId) (x i : Option Value) : Option Value := match x with
  | some v => match i with
    | some j => aIndexAddr P t v j
    | none => none
  | none => none
def vIndex (P : Program) (t : TypeId) (x i : Option Value) : Option Value := match x with
  | some v => match i with
    | some j => aIndex P t v j
    | none => none
  | none => none
def vExtract (x : Option Value) (i : Nat) : Option Value := match x with
  | some (.tuple cs) => cs.toList[i]?
  | _ => none
def vMin (b : Bool) (xs : List Value) : Option Value := match xs with
  | x :: r => evMin b x r
  | [] => none
def vLen (P : Program) (ts : List TypeId) (xs : List Value) : Option Value := match ts with
  | [t] => match xs with
    | [x] => aLen P t x
    | _ => none
  | _ => none
def vBuiltin (P : Program) (b : Builtin) (ts : List TypeId) (xs : List Value) : Option Value := match b with
  | .len => vLen P ts xs
  | .min => vMin true xs
  | .max => vMin false xs
  | _ => none
def vCall (P : Program) (callee : Callee) (ts : List TypeId) (xs : Option (List Value)) : Option Value := match callee with
  | .builtin b => match xs with
    | some xs => vBuiltin P b ts xs
    | none => none
  | _ => none
noncomputable def fVal (P : Program) (g : Look) (get : Nat → Option Blk) (o : Op) : Option Value :=
  match o with
  | .move x => g x
  | .assign x => g x
  | .pick c x y => vPick (g c) (g x) (g y)
  | .build t ps => vBuild P t (fParts g ps.toList)
  | .load t p => vLoad P get t (g p)
  | .nilCheck x => vNil (g x)
  | .binOp op t x y _ => vBin P op t (isC x || isC y) (g x) (g y)
  | .unOp op _ x => vUn op (g x)
  | .convert s d x => vConv P get s d (g x)
  | .makeInterface t x => vIface P t (g x)
  | .makeFunc fn fs cs => vFunc fn (fArgs g fs.toList) (fArgs g cs.toList)
  | .slice t x lo hi mx => vSlice P get t (g x) (fOpt g lo) (fOpt g hi) mx
  | .fieldAddr t x f => vFieldAddr P t (g x) f
  | .field t x f => vField P t (g x) f
  | .indexAddr t x i => vIndexAddr P t (g x) (g i)
  | .index t x i => vIndex P t (g x) (g i)
  | .extract x i => vExtract (g x) i
  | .call c => vCall P c.callee c.argTypes.toList (fArgs g c.args.toList)
  | _ => none
noncomputable def mBox (P : Program) (m : FMem) (t : TypeId) (x : Option Value) : Option (Value × FMem) := match x with
  | some v => fBox P m t v
  | none => none
noncomputable def mBuildSlice (P : Program) (m : FMem) (t : TypeId) (n : Nat) (l : Option (List (Nat × Value))) : Option (Value × FMem) := match l with
  | some l => fBuildSlice P m t n l
  | none => none
noncomputable def mStore (P : Program) (m : FMem) (t : TypeId) (p x : Option Value) : Option (Value × FMem) := match p with
  | some p => match x with
    | some v => match fStore P m t p v with
      | some m' => some (undef, m')
      | none => none
    | none => none
  | none => none
noncomputable def mMakeSlice (P : Program) (m : FMem) (t : TypeId) (l c : Option Value) : Option (Value × FMem) := match l with
  | some l => match c with
    | some c => fMakeSlice P m t l c
    | none => none
  | none => none
noncomputable def mConv (P : Program) (m : FMem) (s d : TypeId) (x : Option Value) : Option (Value × FMem) := match x with
  | some (.string q) => match P.underlying d with
    | some .string => none
    | _ => fToBytes P m s d q
  | _ => none
noncomputable def mAppend (P : Program) (m : FMem) (ts : List TypeId) (xs : Option (List Value)) : Option (Value × FMem) := match ts with
  | [t, tx] => match xs with
    | some [s, x] => fAppend P m t tx s x
    | _ => none
  | _ => none
noncomputable def mCall (P : Program) (m : FMem) (callee : Callee) (ts : List TypeId) (xs : Option (List Value)) : Option (Value × FMem) := match callee with
  | .builtin b => match b with
    | .append => mAppend P m ts xs
    | _ => none
  | _ => none
noncomputable def fMemOp (P : Program) (g : Look) (m : FMem) (o : Op) : Option (Value × FMem) :=
  match o with
  | .alloc t => fAlloc P m t
  | .box t x => mBox P m t (g x)
  | .buildSlice t n ps => mBuildSlice P m t n (fParts g ps.toList)
  | .store t p x => mStore P m t (g p) (g x)
  | .makeSlice t l c => mMakeSlice P m t (g l) (g c)
  | .convert s d x => mConv P m s d (g x)
  | .call c => mCall P m c.callee c.argTypes.toList (fArgs g c.args.toList)
  | _ => none
inductive Class | val | mem | fn
def clsB (b : Builtin) : Class := match b with
  | .append => .mem
  | _ => .val
def clsC (c : Callee) : Class := match c with
  | .builtin b => clsB b
  | _ => .fn
def clsT (d : Option TypeDesc) : Class := match d with
  | some (.slice _) => .mem
  | _ => .val
def cls (P : Program) (o : Op) : Class :=
  match o with
  | .alloc _ => .mem
  | .box .. => .mem
  | .buildSlice .. => .mem
  | .store .. => .mem
  | .makeSlice .. => .mem
  | .convert _ d _ => clsT (P.underlying d)
  | .call c => clsC c.callee
  | _ => .val
noncomputable def fCallee (g : Look) (o : Op) : Option (FuncId × List Value) := match o with
  | .call c => match c.callee with
    | .value f => match g f with
      | some (.func (.func k) fs cs) => match fArgs g c.args.toList with
        | some xs => some (k, fs.toList ++ xs ++ cs.toList)
        | none => none
      | _ => none
    | _ => none
  | _ => none
section
variable {P : Program} {g : Look} {a : List Value} (hg : ∀ x v, g x = some v → aEval a x = some v)
include hg
theorem fArgs_spec : ∀ (l : List Operand) {r : List Value}, fArgs g l = some r → evArgs a l = some r
  | [], r, h => h
  | x :: l, r, h => by
    have e : fArgs g (x :: l) = match g x with | some v => (match fArgs g l with | some r => some (v :: r) | none => none) | none => none := rfl
    rw [e] at h
    unfold evArgs
    split at h <;> first | (cases h; done) | skip
    rename_i v hv
    split at h <;> first | (cases h; done) | skip
    rename_i r' hr
    cases h
    simp only [hg x v hv, fArgs_spec l hr]
theorem fParts_spec : ∀ (l : List (Nat × Operand)) {r : List (Nat × Value)}, fParts g l = some r → evParts a l = some r
  | [], r, h => h
  | p :: l, r, h => by
    have e : fParts g (p :: l) = match g p.2 with | some v => (match fParts g l with | some r => some ((p.1, v) :: r) | none => none) | none => none := rfl
    rw [e] at h
    obtain ⟨i, x⟩ := p
    unfold evParts
    split at h <;> first | (cases h; done) | skip
    rename_i v hv
    split at h <;> first | (cases h; done) | skip
    rename_i r' hr
    cases h
    simp only [hg x v hv, fParts_spec l hr]
theorem fOpt_spec {x : Option Operand} {r : Option Value} (h : fOpt g x = some r) : evOpt a x = some r := by
  cases x with
  | none => exact h
  | some x =>
    unfold fOpt at h
    unfold evOpt
    simp only at h ⊢
    split at h <;> first | (cases h; done) | skip
    rename_i v hv
    cases h
    simp only [hg x v hv]
theorem fCallee_spec {o : Op} {r : FuncId × List Value} (h : fCallee g o = some r) : evCallee a o = some r := by
  unfold fCallee at h
  split at h <;> first | (cases h; done) | skip
  rename_i c
  obtain ⟨callee, args, ts⟩ := c
  cases callee <;> simp only at h <;> first | (cases h; done) | skip
  rename_i f
  split at h <;> first | (cases h; done) | skip
  rename_i k fs cs hk
  split at h <;> first | (cases h; done) | skip
  rename_i xs hxs
  cases h
  simp only [evCallee, hg f _ hk, fArgs_spec hg _ hxs]
theorem vToInt_eq (k : IntKind) (n : Int) : vToInt k n = .int k (k.wrap n) := by
  unfold vToInt
  split
  · rename_i n
    cases h : Nat.blt n 9223372036854775808 with
    | true => simp only [cond_true, wrap_small (blt_iff.1 h)]
    | false => rfl
  · rename_i n
    have e : IntKind.u8.wrap (Int.ofNat n) = Int.ofNat (Nat.mod n 256) := by
      have e1 : IntKind.u8.signed = false := rfl
      have e2 : IntKind.u8.bits = 8 := rfl
      unfold IntKind.wrap
      simp only [e1, e2, Bool.false_and, Bool.false_eq_true, if_false]
      rfl
    rw [e]
  · rfl
theorem fVal_spec {get : Nat → Option Blk} {m : Mem} (hm : ∀ b x, get b = some x → m.get b = some x) {o : Op} {v : Value} (h : fVal P g get o = some v) : evOp P o a m = some (v, m) := by
  cases o <;> simp only [fVal] at h <;> first | (cases h; done) | skip
  case move x => simp only [evOp, hg x v h, pureV]
  case assign x => simp only [evOp, hg x v h, pureV]
  case pick c x y =>
    unfold vPick at h
    split at h <;> first | (cases h; done) | skip
    · rename_i hc; simp only [evOp, hg c _ hc, hg x v h, pureV]
    · rename_i hc; simp only [evOp, hg c _ hc, hg y v h, pureV]
  case build t ps =>
    unfold vBuild at h
    split at h <;> first | (cases h; done) | skip
    rename_i l hl
    simp only [evOp, fParts_spec hg _ hl, h, pureV]
  case load t p =>
    unfold vLoad at h
    split at h <;> first | (cases h; done) | skip
    rename_i q hq
    have : aLoad P m t q = some v := gLoad_mono hm h
    simp only [evOp, hg p q hq, this, pureV]
  case nilCheck x =>
    unfold vNil at h
    split at h <;> first | (cases h; done) | skip
    all_goals
      rename_i hx
      cases h
      simp only [evOp, hg x _ hx]
  case binOp op t x y ty =>
    unfold vBin at h
    split at h <;> first | (cases h; done) | skip
    rename_i u hu
    split at h <;> first | (cases h; done) | skip
    rename_i w hw
    simp only [evOp, hg x u hu, hg y w hw, fBin_eq h, pureV]
  case unOp op t x =>
    unfold vUn at h
    split at h <;> first | (cases h; done) | skip
    rename_i u hu
    simp only [evOp, hg x u hu, h, pureV]
  case convert s d x =>
    unfold vConv at h
    split at h <;> first | (cases h; done) | skip
    · rename_i k n hx
      split at h <;> first | (cases h; done) | skip
      rename_i hs
      split at h <;> first | (cases h; done) | skip
      rename_i k' hd
      cases h
      simp only [evOp, hg x _ hx, evConvert, hs, hd, vToInt_eq hg]
    · rename_i q hx
      split at h <;> first | (cases h; done) | skip
      rename_i hd
      split at h <;> first | (cases h; done) | skip
      rename_i hs
      cases h
      simp only [evOp, hg x _ hx, evConvert, hd, hs]
    · rename_i u hne hne' hx
      have : aToString P m s d u = some v := gToString_mono hm h
      simp only [evOp, hg x _ hx]
      unfold evConvert
      split
      · exact absurd rfl (hne _ _)
      · exact absurd rfl (hne' _)
      · simp only [this]
  case makeInterface t x =>
    unfold vIface at h
    split at h <;> first | (cases h; done) | skip
    rename_i u hu
    split at h <;> first | (cases h; done) | skip
    rename_i d hne hd
    cases h
    simp only [evOp, hg x u hu, hd]
  case makeFunc fn fs cs =>
    unfold vFunc at h
    split at h <;> first | (cases h; done) | skip
    split at h <;> first | (cases h; done) | skip
    rename_i l hl
    split at h <;> first | (cases h; done) | skip
    rename_i r hr
    cases h
    simp only [evOp, fArgs_spec hg _ hl, fArgs_spec hg _ hr]
  case slice t x lo hi mx =>
    unfold vSlice at h
    split at h <;> first | (cases h; done) | skip
    split at h <;> first | (cases h; done) | skip
    rename_i u hu
    split at h <;> first | (cases h; done) | skip
    rename_i l hl
    split at h <;> first | (cases h; done) | skip
    rename_i r hr
    have : aSlice P m t u l r = some v := gSlice_mono hm h
    simp only [evOp, hg x u hu, fOpt_spec hg hl, fOpt_spec hg hr, this, pureV]
  case fieldAddr t x f =>
    unfold vFieldAddr at h
    split at h <;> first | (cases h; done) | skip
    rename_i u hu
    simp only [evOp, hg x u hu, h, pureV]
  case field t x f =>
    unfold vField at h
    split at h <;> first | (cases h; done) | skip
    rename_i cs hu
    split at h <;> first | (cases h; done) | skip
    rename_i fs hs
    split at h <;> first | (cases h; done) | skip
    rename_i fd hf
    simp only [evOp, hg x _ hu, hs, hf, h, pureV]
  case indexAddr t x i =>
    unfold vIndexAddr at h
    split at h <;> first | (cases h; done) | skip
    rename_i u hu
    split at h <;> first | (cases h; done) | skip
    rename_i j hj
    simp only [evOp, hg x u hu, hg i j hj, h, pureV]
  case index t x i =>
    unfold vIndex at h
    split at h <;> first | (cases h; done) | skip
    rename_i u hu
    split at h <;> first | (cases h; done) | skip
    rename_i j hj
    simp only [evOp, hg x u hu, hg i j hj, h, pureV]
  case extract x i =>
    unfold vExtract at h
    split at h <;> first | (cases h; done) | skip
    rename_i cs hu
    simp only [evOp, hg x _ hu, h, pureV]
  case call c =>
    obtain ⟨callee, args, ts⟩ := c
    unfold vCall at h
    cases callee <;> simp only at h <;> first | (cases h; done) | skip
    rename_i b
    split at h <;> first | (cases h; done) | skip
    rename_i xs hxs
    simp only [evOp, fArgs_spec hg _ hxs]
    unfold vBuiltin at h
    unfold evBuiltin
    split at h <;> first | (cases h; done) | skip
    · unfold vLen at h
      split at h <;> first | (cases h; done) | skip
      rename_i ht
      split at h <;> first | (cases h; done) | skip
      simp only [ht, h]
    · unfold vMin at h
      split at h <;> first | (cases h; done) | skip
      simp only [h]
    · unfold vMin at h
      split at h <;> first | (cases h; done) | skip
      simp only [h]
theorem fMemOp_spec {f f' : FMem} {m : Mem} (hm : MR f m) {o : Op} {v : Value} (h : fMemOp P g f o = some (v, f')) : ∃ m', evOp P o a m = some (v, m') ∧ MR f' m' := by
  cases o <;> simp only [fMemOp] at h <;> first | (cases h; done) | skip
  case alloc t =>
    obtain ⟨m', h1, h2⟩ := fAlloc_spec hm h
    exact ⟨m', h1, h2⟩
  case box t x =>
    unfold mBox at h
    split at h <;> first | (cases h; done) | skip
    rename_i u hu
    obtain ⟨m', h1, h2⟩ := fBox_spec hm h
    exact ⟨m', by simp only [evOp, hg x u hu, h1], h2⟩
  case buildSlice t n ps =>
    unfold mBuildSlice at h
    split at h <;> first | (cases h; done) | skip
    rename_i l hl
    obtain ⟨m', h1, h2⟩ := fBuildSlice_spec hm h
    exact ⟨m', by simp only [evOp, fParts_spec hg _ hl, h1], h2⟩
  case store t p x =>
    unfold mStore at h
    split at h <;> first | (cases h; done) | skip
    rename_i q hq
    split at h <;> first | (cases h; done) | skip
    rename_i u hu
    split at h <;> first | (cases h; done) | skip
    rename_i f1 h1
    cases h
    obtain ⟨m', h2, h3⟩ := fStore_spec hm h1
    exact ⟨m', by simp only [evOp, hg p q hq, hg x u hu, h2], h3⟩
  case makeSlice t l c =>
    unfold mMakeSlice at h
    split at h <;> first | (cases h; done) | skip
    rename_i u hu
    split at h <;> first | (cases h; done) | skip
    rename_i q hq
    obtain ⟨m', h1, h2⟩ := fMakeSlice_spec hm h
    exact ⟨m', by simp only [evOp, hg l u hu, hg c q hq, h1], h2⟩
  case convert s d x =>
    unfold mConv at h
    split at h <;> first | (cases h; done) | skip
    rename_i q hx
    split at h <;> first | (cases h; done) | skip
    rename_i hne
    obtain ⟨m', h1, h2⟩ := fToBytes_spec hm h
    refine ⟨m', ?_, h2⟩
    simp only [evOp, hg x _ hx, evConvert]
    exact h1
  case call c =>
    obtain ⟨callee, args, ts⟩ := c
    unfold mCall at h
    cases callee <;> simp only at h <;> first | (cases h; done) | skip
    rename_i b
    cases b <;> simp only at h <;> first | (cases h; done) | skip
    unfold mAppend at h
    split at h <;> first | (cases h; done) | skip
    rename_i t tx ht
    split at h <;> first | (cases h; done) | skip
    rename_i s x hxs
    obtain ⟨m', h1, h2⟩ := fAppend_spec hm h
    exact ⟨m', by simp only [evOp, fArgs_spec hg _ hxs, evBuiltin, ht, h1], h2⟩
end
end Go.Proofs.YtpmgackgcefalaaGreat.Abs
namespace Go.Proofs.YtpmgackgcefalaaGreat.Abs
open Go
abbrev Caller := FuncId → List Value → FMem → Option (Value × FMem)
section
variable (P : Program) (call : Caller)
noncomputable def fEff (c : Class) (g : Look) (o : Op) (m : FMem) : Option (Value × FMem) :=
  match c with
  | .val => match fVal P g m.get o with
    | some v => forceV 2 v fun v => some (v, m)
    | none => none
  | .mem => match fMemOp P g m o with
    | some (v, m') => forceV 1 v fun v => some (v, m')
    | none => none
  | .fn => match fCallee g o with
    | some (k, xs) => bif entered P k then call k xs m else none
    | none => none
noncomputable def fWanted (ops : List Oper) (o : Oper) (f : Fr) : Option Bool :=
  match o.guard with
  | none => some true
  | some (j, w) => match ops[j]? with
    | some p => match p.dst with
      | some t => match f.t.get t with
        | some (.bool b) => some (Region.wanted o fun _ => some b)
        | some (.tuple _) => some (Region.wanted o fun _ => none)
        | _ => none
      | none => some (Region.wanted o fun _ => none)
    | none => some (Region.wanted o fun _ => none)
noncomputable def fStepO (ops : List Oper) (o : Oper) (ih : Fr → FMem → Option (Fr × FMem)) (f : Fr) (m : FMem) : Option (Fr × FMem) :=
  match fWanted ops o f with
  | some true => match fEff P call (cls P o.op) (fEval f) o.op m with
    | some (v, m') => match f.put o.dst v with
      | some f' => ih f' m'
      | none => none
    | none => none
  | some false => match f.put o.dst undef with
    | some f' => ih f' m
    | none => none
  | none => none
noncomputable def fOps (ops : List Oper) (l : List Oper) : Fr → FMem → Option (Fr × FMem) :=
  List.rec (motive := fun _ => Fr → FMem → Option (Fr × FMem)) (fun f m => some (f, m)) (fun o _ ih => fStepO P call ops o ih) l
noncomputable def hideT (bits : Nat) (log : List (Nat × Nat)) (t : Tr Blk) : Tr Blk :=
  List.rec (motive := fun _ => Tr Blk) t (fun p _ ih => bif Nat.testBit bits p.1 then ih else ih.set p.2 none) log
noncomputable def hide (bits : Nat) (log : List (Nat × Nat)) (m : FMem) : FMem := ⟨m.n, m.lim, hideT bits log m.t⟩
noncomputable def copyT (b : Nat) (src : Tr Blk) (to : Tr Blk) (cnt : Nat) : Tr Blk :=
  Nat.rec (motive := fun _ => Tr Blk) to (fun i acc => acc.set (Nat.add b i) (src.get (Nat.add b i))) cnt
noncomputable def joinM (m m1 : FMem) : FMem := ⟨m1.n, m.lim, copyT m.n m1.t m.t (Nat.sub m1.n m.n)⟩
noncomputable def logNew (k b : Nat) (log : List (Nat × Nat)) (cnt : Nat) : List (Nat × Nat) :=
  Nat.rec (motive := fun _ => List (Nat × Nat)) log (fun i acc => (k, Nat.add b i) :: acc) cnt
noncomputable def fStepH (ops : List Oper) (bs : List Nat) (o : Oper) (ih : Nat → List (Nat × Nat) → Fr → FMem → Option (Fr × FMem)) (k : Nat) (log : List (Nat × Nat)) (f : Fr) (m : FMem) : Option (Fr × FMem) :=
  match fWanted ops o f with
  | some true => match cls P o.op with
    | .val => match fVal P (fEval f) (hide (getD' bs k) log m).get o.op with
      | some v => forceV 2 v fun v => match f.put o.dst v with
        | some f' => ih (Nat.succ k) log f' m
        | none => none
      | none => none
    | c => match fEff P call c (fEval f) o.op (hide (getD' bs k) log m).freeze with
      | some (v, m1) => match f.put o.dst v with
        | some f' => ih (Nat.succ k) (logNew k m.n log (Nat.sub m1.n m.n)) f' (joinM m m1)
        | none => none
      | none => none
  | some false => match f.put o.dst undef with
    | some f' => ih (Nat.succ k) log f' m
    | none => none
  | none => none
where getD' (bs : List Nat) (k : Nat) : Nat := (bs[k]?).getD 0
noncomputable def fHead (ops : List Oper) (bs : List Nat) (l : List Oper) : Nat → List (Nat × Nat) → Fr → FMem → Option (Fr × FMem) :=
  List.rec (motive := fun _ => Nat → List (Nat × Nat) → Fr → FMem → Option (Fr × FMem)) (fun _ _ f m => some (f, m)) (fun o _ ih => fStepH P call ops bs o ih) l
def findQ (bs : List Nat) : Nat → Nat
  | 0 => 0
  | k + 1 => if (List.range k).all (fun j => ((bs[k]?).getD 0).testBit j) = true then findQ bs k else k + 1
def drawQ (ops : Array Oper) : Nat := findQ (befM ops.toList) ops.size
noncomputable def fDraw (ops : Array Oper) (q : Nat) (f : Fr) (m : FMem) : Option (Fr × FMem) :=
  bif drawOK ops q then bif Nat.ble q ops.size then
    match fHead P call ops.toList (befM ops.toList) (ops.toList.take q) 0 [] f m with
    | some (f', m') => fOps P call ops.toList (ops.toList.drop q) f' m'
    | none => none
  else none else none
noncomputable def fRegion (ops : Array Oper) (d : Bool) (f : Fr) (m : FMem) : Option (Fr × FMem) :=
  match d with
  | true => fDraw P call ops (drawQ ops) f m
  | false => fOps P call ops.toList ops.toList f m
abbrev Run := Code → Fr → FMem → Option (Exit × Fr × FMem)
noncomputable def kSeq (ih : Run) (y : Code) (r : Option (Exit × Fr × FMem)) : Option (Exit × Fr × FMem) := match r with
  | some (.normal, f, m) => ih y f m
  | r => r
noncomputable def kCond (ih : Run) (c : Option Value) (x y : Code) (f : Fr) (m : FMem) : Option (Exit × Fr × FMem) := match c with
  | some (.bool true) => ih x f m
  | some (.bool false) => ih y f m
  | _ => none
noncomputable def kBlock (i : Nat) (r : Option (Exit × Fr × FMem)) : Option (Exit × Fr × FMem) := match r with
  | some (.exit j, f, m) => bif Nat.beq j i then some (.normal, f, m) else some (.exit j, f, m)
  | r => r
noncomputable def kRegion (r : Option (Fr × FMem)) : Option (Exit × Fr × FMem) := match r with
  | some (f, m) => some (.normal, f, m)
  | none => none
noncomputable def fStepC (ih : Run) : Run := fun c f m => match c with
  | .skip => some (.normal, f, m)
  | .label _ => some (.normal, f, m)
  | .exit i => some (.exit i, f, m)
  | .ret => some (.ret, f, m)
  | .seq x y => kSeq ih y (ih x f m)
  | .cond c x y => kCond ih (fEval f c) x y f m
  | .block i x => kBlock i (ih x f m)
  | .loop x => kSeq ih (.loop x) (ih x f m)
  | .region _ ops d => kRegion (fRegion P call ops d f m)
  | _ => none
noncomputable def fCode (n : Nat) : Run := Nat.rec (motive := fun _ => Run) (fun _ _ _ => none) (fun _ ih => fStepC P call ih) n
noncomputable def fLoad (m : FMem) (t : TypeId) (q : Option Value) : Option Value := match q with
  | some q => gLoad P m.get t q
  | none => none
noncomputable def fResult (f : Fr) (m : FMem) : ResultVar → Option Value
  | .tmp t => f.t.get t
  | .cell p t => fLoad P m t (f.t.get p)
noncomputable def fResults (f : Fr) (m : FMem) (l : List ResultVar) : Option (List Value) :=
  List.rec (motive := fun _ => Option (List Value)) (some []) (fun r _ ih => match fResult P f m r with
    | some v => match ih with
      | some l => some (v :: l)
      | none => none
    | none => none) l
noncomputable def fAnswer (rs : List ResultVar) (f : Fr) (m : FMem) : Option Value := match fResults P f m rs with
  | some [v] => some v
  | some l => some (.tuple l.toArray)
  | none => none
noncomputable def fEnd (rs : List ResultVar) (e : Exit) (f : Fr) (m : FMem) : Option (Value × FMem) := match e with
  | .ret => match fAnswer P rs f m with
    | some v => forceV 3 v fun v => some (v, m)
    | none => none
  | .normal => match fAnswer P rs f m with
    | some v => forceV 3 v fun v => some (v, m)
    | none => none
  | _ => none
noncomputable def fBody (L : Nat) (fn : Func) (c : Code) (xs : List Value) (m : FMem) : Option (Value × FMem) :=
  match fCode P call L c (fFrame fn.ntmps xs) m with
  | some (e, f, m') => fEnd P fn.results.toList e f m'
  | none => none
noncomputable def fFn (L : Nat) (fn : Option Func) (xs : List Value) (m : FMem) : Option (Value × FMem) := match fn with
  | some fn => match fn.body with
    | some c => fBody P call L fn c xs m
    | none => none
  | none => none
end
noncomputable def fCall (P : Program) (T : Caller) (L : Nat) (n : Nat) : Caller := Nat.rec (motive := fun _ => Caller) (fun _ _ _ => none)
  (fun _ ih k xs m => match T k xs m with
    | some r => some r
    | none => fFn P ih L P.funcs[k]? xs m) n
def Good (P : Program) (call : Caller) : Prop :=
  ∀ k xs f v f', call k xs f = some (v, f') → ∀ m, MR f m → ∃ m', MR f' m' ∧ Spec P k xs m (fun u m'' => u = v ∧ m'' = m') ∧ Ext m m'
section
variable {P : Program} {call : Caller} (hc : Good P call)
include hc
theorem fEff_run {o : Oper} {f : Fr} {a : List Value} {m m' : FMem} {M : Mem} {v : Value} {c : Class} (hf : FR f a) (hm : MR m M) (h : fEff P call c (fEval f) o.op m = some (v, m')) :
    ∃ M', MR m' M' ∧ (evOp P o.op a M = some (v, M') ∨ ∃ k xs, evCallee a o.op = some (k, xs) ∧ entered P k = true ∧ Spec P k xs M fun u m'' => u = v ∧ m'' = M') ∧ Ext M M' := by
  have hg : ∀ x v, fEval f x = some v → aEval a x = some v := fun x v hx => fEval_spec hf hx
  unfold fEff at h
  split at h
  · split at h <;> first | (cases h; done) | skip
    rename_i u hu
    rw [forceV_eq] at h
    cases h
    have := fVal_spec hg hm.2.2 hu
    exact ⟨M, hm, .inl this, Ext.refl _⟩
  · split at h <;> first | (cases h; done) | skip
    rename_i u m1 hu
    rw [forceV_eq] at h
    cases h
    obtain ⟨M', h1, h2⟩ := fMemOp_spec hg hm hu
    exact ⟨M', h2, .inl h1, evOp_ext h1⟩
  · split at h <;> first | (cases h; done) | skip
    rename_i k xs hk
    cases he : entered P k with
    | false => rw [he] at h; cases h
    | true =>
      rw [he] at h
      obtain ⟨M', h1, h2, h3⟩ := hc _ _ _ _ _ h M hm
      exact ⟨M', h1, .inr ⟨k, xs, fCallee_spec hg hk, he, h2⟩, h3⟩
theorem fEff_ok {o : Oper} {f : Fr} {a : List Value} {m m' : FMem} {M : Mem} {v : Value} {c : Class} (hf : FR f a) (hm : MR m M) (h : fEff P call c (fEval f) o.op m = some (v, m')) :
    ∃ M', MR m' M' ∧ OpOK P o a M v M' ∧ Ext M M' := by
  obtain ⟨M', h1, h2, h3⟩ := fEff_run hc hf hm h
  refine ⟨M', h1, ?_, h3⟩
  rcases h2 with h2 | ⟨k, xs, h2, h4, h5⟩
  · exact OpSim.op h2 ⟨rfl, rfl⟩
  · exact OpSim.call h2 h4 h5
end
theorem fWanted_spec {ops : List Oper} {o : Oper} {f : Fr} {a : List Value} (hf : FR f a) {b : Bool} (h : fWanted ops o f = some b) : Region.wanted o (aYielded ops a) = b := by
  unfold fWanted at h
  split at h
  · rename_i hg
    cases h
    unfold Region.wanted
    rw [hg]
  · rename_i j w hg
    have key : ∀ r : Option Bool, aYielded ops a j = r → Region.wanted o (aYielded ops a) = Region.wanted o fun _ => r := fun r hr =>
      wanted_congr o fun i b hi => by rw [hg] at hi; cases hi; exact hr
    split at h
    · rename_i p hp
      split at h
      · rename_i t ht
        split at h <;> first | (cases h; done) | skip
        · rename_i b hb
          cases h
          exact key _ (by simp only [aYielded, hp, ht, hf.2 t _ hb])
        · rename_i cs hb
          cases h
          exact key _ (by simp only [aYielded, hp, ht, hf.2 t _ hb])
      · rename_i ht
        cases h
        exact key _ (by simp only [aYielded, hp, ht])
    · rename_i hp
      cases h
      exact key _ (by simp only [aYielded, hp])
section
variable {P : Program} {call : Caller} (hc : Good P call)
include hc
theorem fOps_run {ops : List Oper} : ∀ (l : List Oper) {f f' : Fr} {a : List Value} {m m' : FMem} {M : Mem}, FR f a → MR m M → fOps P call ops l f m = some (f', m') →
    ∃ a' M', FR f' a' ∧ MR m' M' ∧ (∀ Q : List Value → Mem → Prop, Q a' M' → aOps P ops Q l a M) ∧ Ext M M'
  | [], f, f', a, m, m', M, hf, hm, h => by
    have e : some (f, m) = some (f', m') := h
    cases e
    exact ⟨a, M, hf, hm, fun Q hQ => hQ, Ext.refl _⟩
  | o :: r, f, f', a, m, m', M, hf, hm, h => by
    have e : fStepO P call ops o (fOps P call ops r) f m = some (f', m') := h
    unfold fStepO at e
    split at e <;> first | (cases e; done) | skip
    · rename_i hw
      have hw := fWanted_spec hf hw
      split at e <;> first | (cases e; done) | skip
      rename_i v m1 h1
      split at e <;> first | (cases e; done) | skip
      rename_i f1 hp
      obtain ⟨M1, h2, h3, h4⟩ := fEff_run hc hf hm h1
      obtain ⟨a', M', h5, h6, h7, h8⟩ := fOps_run r (hf.put hp) h2 e
      refine ⟨a', M', h5, h6, fun Q hQ => ?_, h4.trans h8⟩
      simp only [aOps]
      rw [if_pos hw]
      rcases h3 with h3 | ⟨k, xs, k1, k2, k3⟩
      · exact .inl ⟨v, M1, h3, h7 Q hQ⟩
      · refine .inr ⟨k, xs, _, k1, k2, k3, ?_⟩
        rintro _ _ ⟨rfl, rfl⟩
        exact h7 Q hQ
    · rename_i hw
      have hw := fWanted_spec hf hw
      split at e <;> first | (cases e; done) | skip
      rename_i f1 hp
      obtain ⟨a', M', h5, h6, h7, h8⟩ := fOps_run r (hf.put hp) hm e
      refine ⟨a', M', h5, h6, fun Q hQ => ?_, h8⟩
      simp only [aOps]
      rw [if_neg (by rw [hw]; simp)]
      exact h7 Q hQ
end
theorem hideT_get (bits : Nat) (t : Tr Blk) : ∀ (log : List (Nat × Nat)) (b : Nat) (x : Blk), (hideT bits log t).get b = some x → t.get b = some x ∧ ∀ j, (j, b) ∈ log → Nat.testBit bits j = true
  | [], b, x, h => ⟨h, fun j hj => by cases hj⟩
  | p :: r, b, x, h => by
    have e : hideT bits (p :: r) t = bif Nat.testBit bits p.1 then hideT bits r t else (hideT bits r t).set p.2 none := rfl
    rw [e] at h
    cases hb : Nat.testBit bits p.1 with
    | true =>
      rw [hb] at h
      obtain ⟨h1, h2⟩ := hideT_get bits t r b x h
      refine ⟨h1, fun j hj => ?_⟩
      rcases List.mem_cons.1 hj with hj | hj
      · have : j = p.1 := by rw [← hj]
        rw [this]; exact hb
      · exact h2 j hj
    | false =>
      rw [hb] at h
      simp only [cond_false] at h
      rw [Tr.get_set] at h
      split at h
      · cases h
      · rename_i hne
        obtain ⟨h1, h2⟩ := hideT_get bits t r b x h
        refine ⟨h1, fun j hj => ?_⟩
        rcases List.mem_cons.1 hj with hj | hj
        · exact absurd (by rw [← hj]) hne
        · exact h2 j hj
theorem copyT_get (b : Nat) (src to : Tr Blk) : ∀ (cnt c : Nat), (copyT b src to cnt).get c = if b ≤ c ∧ c < b + cnt then src.get c else to.get c
  | 0, c => by rw [if_neg (by omega)]; rfl
  | cnt + 1, c => by
    have e : copyT b src to (cnt + 1) = (copyT b src to cnt).set (b + cnt) (src.get (b + cnt)) := rfl
    rw [e, Tr.get_set, copyT_get b src to cnt c]
    by_cases h : c = b + cnt
    · subst h; rw [if_pos rfl, if_pos (by omega)]
    · rw [if_neg h]
      by_cases h2 : b ≤ c ∧ c < b + cnt
      · rw [if_pos h2, if_pos (by omega)]
      · rw [if_neg h2, if_neg (by omega)]
theorem logNew_mem (k b : Nat) (log : List (Nat × Nat)) : ∀ (cnt : Nat) (c : Nat), b ≤ c → c < b + cnt → (k, c) ∈ logNew k b log cnt
  | 0, c, h1, h2 => by omega
  | cnt + 1, c, h1, h2 => by
    have e : logNew k b log (cnt + 1) = (k, b + cnt) :: logNew k b log cnt := rfl
    rw [e]
    by_cases h : c = b + cnt
    · subst h; exact List.mem_cons_self
    · exact List.mem_cons_of_mem _ (logNew_mem k b log cnt c h1 (by omega))
theorem logNew_old (k b : Nat) (log : List (Nat × Nat)) : ∀ (cnt : Nat) (p : Nat × Nat), p ∈ log → p ∈ logNew k b log cnt
  | 0, p, h => h
  | cnt + 1, p, h => List.mem_cons_of_mem _ (logNew_old k b log cnt p h)
theorem hide_MR {ops : Array Oper} {m₀ : Mem} {Ns : List (List (Option Blk))} {k : Nat} {log : List (Nat × Nat)} {m : FMem} (hm : MR m (memAt m₀ (getN Ns) allS k)) (hlog : ∀ j b, j < k → IsNew m₀ (getN Ns) j b → (j, b) ∈ log) :
    MR (hide (fStepH.getD' (befM ops.toList) k) log m) (memB ops m₀ (getN Ns) k) := by
  refine ⟨?_, hm.2.1, fun b x hb => ?_⟩
  · show (memB ops m₀ (getN Ns) k).size = m.n
    rw [← hm.1]
    unfold memB memAt Mem.size
    simp only [List.length_append]
    rw [newsAt_length (getN Ns) (B ops k) allS k]
  · obtain ⟨ro, s, cs, h1, h2⟩ := FMem.get_of hb
    replace h1 : (hideT (fStepH.getD' (befM ops.toList) k) log m.t).get b = some (.cells ro s cs) := h1
    obtain ⟨h3, h4⟩ := hideT_get _ _ _ _ _ h1
    have h5 : m.get b = some x := by rw [FMem.get_to h3]; exact congrArg some h2.symm
    rcases (memAt_get _ _ _ _).1 (hm.2.2 b x h5) with h6 | ⟨j, h6, _, h7, h8⟩
    · exact (memAt_get _ _ _ _).2 (.inl h6)
    · refine (memAt_get _ _ _ _).2 (.inr ⟨j, h6, ?_, h7, h8⟩)
      exact h4 j (hlog j b h6 ⟨h7, by have := (List.getElem?_eq_some_iff.1 h8).1; omega⟩)
theorem join_MR {M : Mem} {m m1 : FMem} (hm : MR m M) {A : Mem} (hA : A.size = M.size) {N : List (Option Blk)} (h1 : MR m1 (A.app N)) (hN : N.all ownB = true) : MR (joinM m m1) (M.app N) := by
  have hsz : m1.n = m.n + N.length := by
    have := h1.1
    have e : (A.app N).size = A.size + N.length := by simp [Mem.size, Mem.app]
    rw [e, hA, hm.1] at this
    omega
  refine ⟨?_, ?_, fun b x hb => ?_⟩
  · have e : (M.app N).size = M.size + N.length := by simp [Mem.size, Mem.app]
    rw [e, hm.1]; exact hsz.symm
  · show m.lim ≤ m1.n
    have := hm.2.1
    omega
  · obtain ⟨ro, s, cs, k1, k2⟩ := FMem.get_of hb
    replace k1 : (copyT m.n m1.t m.t (m1.n - m.n)).get b = some (.cells ro s cs) := k1
    replace k2 : x = if b < m.lim then Blk.cells true s cs else Blk.cells ro s cs := k2
    rw [copyT_get] at k1
    split at k1
    · rename_i hr
      rw [if_neg (by have := hm.2.1; omega)] at k2
      have k3 := h1.2.2 b _ (FMem.get_to k1)
      have hsA : A.size = m.n := by rw [hA, hm.1]
      rcases app_get k3 with ⟨k4, _⟩ | ⟨k4, k5⟩
      · omega
      · have ho := List.all_eq_true.1 hN _ (List.mem_of_getElem? k5)
        have e : (if b < m1.lim then Blk.cells true s cs else Blk.cells ro s cs) = x := by
          by_cases hl : b < m1.lim
          · rw [if_pos hl] at ho; cases ho
          · rw [if_neg hl, k2]
        rw [e] at k5
        exact app_get_new (by rw [hm.1]; omega) (by rw [hm.1, ← hsA]; exact k5)
    · have k3 : m.get b = some x := by rw [FMem.get_to k1]; exact congrArg some k2.symm
      have k4 := hm.2.2 b x k3
      rw [app_get_old (Mem.get_lt k4)]
      exact k4
section
variable {P : Program} {call : Caller} (hc : Good P call)
include hc
set_option linter.unusedSectionVars false in
theorem fHead_run {ops : Array Oper} {m₀ : Mem} {a₀ : List Value} {q : Nat} (hq : drawOK ops q = true) (hqs : q ≤ ops.size) :
    ∀ (l : List Oper) (k : Nat) (vs : List Value) (Ns : List (List (Option Blk))) (log : List (Nat × Nat)) (f f' : Fr) (m m' : FMem), (∀ j, l[j]? = if k + j < q then ops[k + j]? else none) → k ≤ q → vs.length = k → Ns.length = k →
      FR f (frameAt ops (getV vs) allS a₀ k) → MR m (memAt m₀ (getN Ns) allS k) → (∀ j b, j < k → IsNew m₀ (getN Ns) j b → (j, b) ∈ log) → (∀ j, j < k → (getN Ns j).all ownB = true) →
      (∀ i o, i < k → ops[i]? = some o → DOp P ops a₀ m₀ (getV vs) (getN Ns) i o) → fHead P call ops.toList (befM ops.toList) l k log f m = some (f', m') →
      ∃ vs' Ns', FR f' (frameAt ops (getV vs') allS a₀ q) ∧ MR m' (memAt m₀ (getN Ns') allS q) ∧ (∀ j, j < q → (getN Ns' j).all ownB = true) ∧ (∀ i o, i < q → ops[i]? = some o → DOp P ops a₀ m₀ (getV vs') (getN Ns') i o) := by
  have hq0 := hq
  simp only [drawOK, Bool.and_eq_true] at hq
  obtain ⟨⟨⟨hsel, hback⟩, hap⟩, hwait⟩ := hq
  intro l
  induction l with
  | nil =>
    intro k vs Ns log f f' m m' hl hkq hvs hNs hf hm hlog hown hd h
    have hk : k = q := by
      have h0 := hl 0
      rcases Nat.lt_or_ge k q with h1 | h1
      · rw [if_pos (by omega), Nat.add_zero, Array.getElem?_eq_getElem (show k < ops.size by omega)] at h0
        cases h0
      · omega
    subst hk
    have e : some (f, m) = some (f', m') := h
    cases e
    exact ⟨vs, Ns, hf, hm, hown, hd⟩
  | cons o l ih =>
    intro k vs Ns log f f' m m' hl hkq hvs hNs hf hm hlog hown hd h
    have hk : k < q ∧ ops[k]? = some o := by
      have h0 := hl 0
      rcases Nat.lt_or_ge k q with h1 | h1
      · rw [if_pos (by omega), Nat.add_zero] at h0
        exact ⟨h1, by simpa using h0.symm⟩
      · rw [if_neg (by omega)] at h0; cases h0
    obtain ⟨hkq', hko⟩ := hk
    obtain ⟨a, ha⟩ : ∃ a, a = frameAt ops (getV vs) allS a₀ k := ⟨_, rfl⟩
    rw [← ha] at hf
    have hslot : ∀ t, t ∈ o.looksAt ops → (frB ops a₀ (getV vs) k)[t]? = a[t]? := fun t ht => by rw [ha]; exact slot_all hap hkq' hqs hko ht
    have hev : ∀ x ∈ o.op.operands, aEval (frB ops a₀ (getV vs) k) x = aEval a x := by
      intro x hx
      cases x with
      | tmp t =>
        simp only [aEval]
        refine hslot t ?_
        simp only [Oper.looksAt, List.mem_append, List.mem_filterMap]
        exact .inl ⟨.tmp t, by simpa using hx, rfl⟩
      | _ => rfl
    have hwant : Region.wanted o (aYielded ops.toList (frB ops a₀ (getV vs) k)) = Region.wanted o (aYielded ops.toList a) := by
      refine wanted_congr o fun g b hg => ?_
      unfold aYielded
      simp only [Array.getElem?_toList]
      cases hog : ops[g]? with
      | none => rfl
      | some og =>
        cases hdg : og.dst with
        | none => simp [hdg]
        | some t =>
          simp only [hdg]
          rw [hslot t (by simp [Oper.looksAt, hg, hog, hdg])]
    have next : ∀ (v : Value) (N : List (Option Blk)) (log' : List (Nat × Nat)) (f1 : Fr) (m1 : FMem), DOp P ops a₀ m₀ (getV (vs ++ [v])) (getN (Ns ++ [N])) k o → N.all ownB = true → FR f1 (aPut a o.dst v) → MR m1 ((memAt m₀ (getN Ns) allS k).app N) →
        (∀ p ∈ log, p ∈ log') → (∀ b, (memAt m₀ (getN Ns) allS k).size ≤ b → b < (memAt m₀ (getN Ns) allS k).size + N.length → (k, b) ∈ log') →
        fHead P call ops.toList (befM ops.toList) l (k + 1) log' f1 m1 = some (f', m') →
        ∃ vs' Ns', FR f' (frameAt ops (getV vs') allS a₀ q) ∧ MR m' (memAt m₀ (getN Ns') allS q) ∧ (∀ j, j < q → (getN Ns' j).all ownB = true) ∧ (∀ i o, i < q → ops[i]? = some o → DOp P ops a₀ m₀ (getV vs') (getN Ns') i o) := by
      intro v N log' f1 m1 hD hNo hf1 hm1 hl1 hl2 h
      have hlow : ∀ j, j < k → getV vs j = getV (vs ++ [v]) j := fun j hj => by rw [getV_append, if_pos (by omega)]
      have hlowN : ∀ j, j < k → getN Ns j = getN (Ns ++ [N]) j := fun j hj => by rw [getN_append, if_pos (by omega)]
      have gN : getN (Ns ++ [N]) k = N := by rw [getN_append, if_neg (by omega), if_pos (by omega)]
      have hmem : memAt m₀ (getN (Ns ++ [N])) allS k = memAt m₀ (getN Ns) allS k := by
        unfold memAt
        rw [newsAt_congrN k fun j hj => (hlowN j hj).symm]
      have hoff : ∀ j, j ≤ k → off (getN (Ns ++ [N])) j = off (getN Ns) j := fun j hj => by
        unfold off
        rw [newsAt_congrN j fun i hi => (hlowN i (by omega)).symm]
      refine ih (k + 1) (vs ++ [v]) (Ns ++ [N]) log' f1 f' m1 m' (fun j => ?_) (by omega) (by simp [hvs]) (by simp [hNs]) ?_ ?_ (fun j b hj hb => ?_) (fun j hj => ?_) (fun i oi hi hoi => ?_) h
      · have := hl (j + 1)
        rw [List.getElem?_cons_succ] at this
        rw [this, show k + (j + 1) = k + 1 + j by omega]
      · simp only [frameAt, allS, if_true, hko, Option.bind_some]
        rw [← frameAt_congr k hlow, getV_append, if_neg (by omega), if_pos (by omega)]
        rw [ha] at hf1
        exact hf1
      · rw [memAt_succ, hmem, gN]
        exact hm1
      · by_cases e : j = k
        · subst e
          obtain ⟨b1, b2⟩ := hb
          rw [hoff j (Nat.le_refl _)] at b1 b2
          rw [gN] at b2
          have hsz : (memAt m₀ (getN Ns) allS j).size = m₀.size + off (getN Ns) j := by simp [memAt, Mem.size, off, allS]; rfl
          exact hl2 b (by rw [hsz]; exact b1) (by rw [hsz]; exact b2)
        · refine hl1 _ (hlog j b (by omega) ?_)
          obtain ⟨b1, b2⟩ := hb
          rw [hoff j (by omega)] at b1 b2
          rw [← hlowN j (by omega)] at b2
          exact ⟨b1, b2⟩
      · by_cases e : j = k
        · subst e; rw [gN]; exact hNo
        · rw [← hlowN j (by omega)]; exact hown j (by omega)
      · by_cases e : i = k
        · subst e
          rw [hko] at hoi; cases hoi
          exact hD
        · exact DOp_congr (fun j hj => hlow j (by omega)) (fun j hj => hlowN j (by omega)) (hd i oi (by omega) hoi)
    have gv : ∀ v, getV (vs ++ [v]) k = v := fun v => by rw [getV_append, if_neg (by omega), if_pos (by omega)]
    have gN : ∀ N, getN (Ns ++ [N]) k = N := fun N => by rw [getN_append, if_neg (by omega), if_pos (by omega)]
    have fv : ∀ v, frB ops a₀ (getV (vs ++ [v])) k = frB ops a₀ (getV vs) k := fun v => frameAt_congr k fun j hj => by rw [getV_append, if_pos (by omega)]
    have fN : ∀ N, memB ops m₀ (getN (Ns ++ [N])) k = memB ops m₀ (getN Ns) k := fun N => by
      unfold memB memAt
      rw [newsAt_congrN k fun j hj => by rw [getN_append, if_pos (by omega)]]
    have app0 : ∀ M : Mem, M.app [] = M := fun M => by simp [Mem.app]
    have hsame : (memB ops m₀ (getN Ns) k).size = (memAt m₀ (getN Ns) allS k).size := by
      unfold memB memAt Mem.size
      simp only [List.length_append]
      rw [newsAt_length (getN Ns) (B ops k) allS k]
    have e : fStepH P call ops.toList (befM ops.toList) o (fHead P call ops.toList (befM ops.toList) l) k log f m = some (f', m') := h
    unfold fStepH at e
    have hvis := hide_MR (ops := ops) hm hlog
    split at e <;> first | (cases e; done) | skip
    · rename_i hw
      have hw := fWanted_spec hf hw
      split at e
      · split at e <;> first | (cases e; done) | skip
        rename_i v hv
        rw [forceV_eq] at e
        split at e <;> first | (cases e; done) | skip
        rename_i f1 hp
        refine next v [] log f1 m ?_ rfl (hf.put hp) (by rw [app0]; exact hm) (fun _ h => h) (fun b h1 h2 => by simp only [List.length_nil] at h2; omega) e
        have := fVal_spec (P := P) (a := a) (fun x v hx => fEval_spec hf hx) hvis.2.2 hv
        unfold DOp memOf
        rw [fv, fN, gv, gN, hwant, if_pos hw, app0]
        exact ⟨OpSim.congr (OpSim.op this ⟨rfl, rfl⟩) hev, rfl⟩
      · split at e <;> first | (cases e; done) | skip
        rename_i v m1 h1
        split at e <;> first | (cases e; done) | skip
        rename_i f1 hp
        obtain ⟨M', k1, k2, k3⟩ := fEff_ok hc hf hvis.freeze h1
        obtain ⟨N, rfl, hN⟩ := app_of_ext k3
        have hA : (memB ops m₀ (getN Ns) k).freeze.size = (memAt m₀ (getN Ns) allS k).size := by rw [freeze_size, hsame]
        have hj := join_MR hm hA k1 hN
        have hlen : m1.n - m.n = N.length := by
          have := hj.1
          have e1 : ((memAt m₀ (getN Ns) allS k).app N).size = (memAt m₀ (getN Ns) allS k).size + N.length := by simp [Mem.size, Mem.app]
          rw [e1, hm.1] at this
          have e2 : (joinM m m1).n = m1.n := rfl
          rw [e2] at this
          omega
        refine next v N _ f1 _ ?_ hN (hf.put hp) hj (fun p hp => logNew_old _ _ _ _ _ hp) (fun b b1 b2 => ?_) e
        · unfold DOp memOf
          rw [fv, fN, gv, gN, hwant, if_pos hw]
          exact ⟨OpSim.thaw (OpSim.congr k2 hev) hN, hN⟩
        · rw [hm.1] at b1 b2
          exact logNew_mem _ _ _ _ _ b1 (by show b < m.n + (m1.n - m.n); omega)
    · rename_i hw
      have hw := fWanted_spec hf hw
      split at e <;> first | (cases e; done) | skip
      rename_i f1 hp
      refine next undef [] log f1 m ?_ rfl (hf.put hp) (by rw [app0]; exact hm) (fun _ h => h) (fun b h1 h2 => by simp only [List.length_nil] at h2; omega) e
      unfold DOp
      rw [fv, gv, gN, hwant, if_neg (by rw [hw]; simp)]
      exact ⟨rfl, rfl⟩
end
section
variable {P : Program} {call : Caller} (hc : Good P call) (hmix : P.follows .mixedOrders = true)
include hc hmix
theorem fRegion_run {id : Nat} {ops : Array Oper} {d : Bool} {f f' : Fr} {a : List Value} {m m' : FMem} {M : Mem} (hf : FR f a) (hm : MR m M) (h : fRegion P call ops d f m = some (f', m')) :
    ∃ a' M', FR f' a' ∧ MR m' M' ∧ AW P (.region id ops d) (At .normal a' M') a M ∧ Ext M M' := by
  unfold fRegion at h
  split at h
  · unfold fDraw at h
    generalize drawQ ops = q at h
    cases hq : drawOK ops q with
    | false => rw [hq] at h; cases h
    | true =>
      rw [hq] at h
      cases hqs : Nat.ble q ops.size with
      | false => rw [hqs] at h; cases h
      | true =>
        rw [hqs] at h
        have hqs := Nat.le_of_ble_eq_true hqs
        simp only [cond_true] at h
        split at h <;> first | (cases h; done) | skip
        rename_i f1 m1 h1
        have hmem0 : memAt M (getN []) allS 0 = M := by simp [memAt, newsAt]
        obtain ⟨vs, Ns, k1, k2, k3, k4⟩ := fHead_run hc (a₀ := a) (m₀ := M) hq hqs (ops.toList.take q) 0 [] [] [] f f1 m m1 (fun j => by rw [List.getElem?_take, Array.getElem?_toList, Nat.zero_add]) (by omega) rfl rfl hf (by rw [hmem0]; exact hm)
          (fun j b hj => by omega) (fun j hj => by omega) (fun i o hi => by omega) h1
        obtain ⟨a', M', k5, k6, k7, k8⟩ := fOps_run hc _ k1 k2 h
        exact ⟨a', M', k5, k6, AW_draw hmix q hq hqs (getV vs) (getN Ns) k4 (k7 _ ⟨rfl, rfl, rfl⟩), (memAt_ext _ _ _ k3).trans k8⟩
  · obtain ⟨a', M', k5, k6, k7, k8⟩ := fOps_run hc _ hf hm h
    exact ⟨a', M', k5, k6, AW_region (k7 _ ⟨rfl, rfl, rfl⟩), k8⟩
theorem fCode_run : ∀ (n : Nat), (∀ (c : Code) (f f' : Fr) (a : List Value) (m m' : FMem) (M : Mem) (e : Exit), FR f a → MR m M → fCode P call n c f m = some (e, f', m') → ∃ a' M', FR f' a' ∧ MR m' M' ∧ AW P c (At e a' M') a M ∧ Ext M M') ∧
    (∀ (c : Code) (f f' : Fr) (a : List Value) (m m' : FMem) (M : Mem) (e : Exit), FR f a → MR m M → fCode P call n (.loop c) f m = some (e, f', m') → ∃ a' M', FR f' a' ∧ MR m' M' ∧ Ext M M' ∧ ∀ (ι₀ : Nat → Loc) (m₀ : Mem) (w₀ : World) (ι : Nat → Loc) (act : Act) (w : World), Step ι₀ m₀ w₀ ι M w → ARel M.Has ι a act → Rel ι M w →
      Code.rounds P c (Post ι₀ m₀ w₀ (At e a' M')) n act w) := by
  intro n
  induction n with
  | zero =>
    have hz : ∀ c f m, fCode P call 0 c f m = none := fun _ _ _ => rfl
    exact ⟨fun c f f' a m m' M e _ _ h => absurd h (by rw [hz]; simp), fun c f f' a m m' M e _ _ h => absurd h (by rw [hz]; simp)⟩
  | succ n ih =>
    have hs : ∀ c f m, fCode P call (n + 1) c f m = fStepC P call (fCode P call n) c f m := fun _ _ _ => rfl
    have hloop : ∀ (c : Code) (f f' : Fr) (a : List Value) (m m' : FMem) (M : Mem) (e : Exit), FR f a → MR m M → fCode P call (n + 1) (.loop c) f m = some (e, f', m') → ∃ a' M', FR f' a' ∧ MR m' M' ∧ Ext M M' ∧ ∀ (ι₀ : Nat → Loc) (m₀ : Mem) (w₀ : World) (ι : Nat → Loc) (act : Act) (w : World), Step ι₀ m₀ w₀ ι M w → ARel M.Has ι a act → Rel ι M w →
      Code.rounds P c (Post ι₀ m₀ w₀ (At e a' M')) (n + 1) act w := by
      intro c f f' a m m' M e hf hm h
      rw [hs] at h
      simp only [fStepC] at h
      unfold kSeq at h
      split at h
      · rename_i f1 m1 h1
        obtain ⟨a1, M1, k1, k2, k3, k4⟩ := ih.1 c f f1 a m m1 M .normal hf hm h1
        obtain ⟨a', M', k5, k6, k7, k8⟩ := ih.2 c f1 f' a1 m1 m' M1 e k1 k2 h
        refine ⟨a', M', k5, k6, k4.trans k7, fun ι₀ m₀ w₀ ι act w hs ha hr => ?_⟩
        refine wp_mono (k3 ι₀ m₀ w₀ ι act w hs ha hr) ?_
        rintro e2 act2 w2 ⟨κ, a2, m2, ⟨rfl, rfl, rfl⟩, ha2, hr2, hs2⟩
        exact k8 ι₀ m₀ w₀ κ act2 w2 hs2 ha2 hr2
      · rename_i hne
        obtain ⟨a1, M1, k1, k2, k3, k4⟩ := ih.1 c f f' a m m' M e hf hm h
        refine ⟨a1, M1, k1, k2, k4, fun ι₀ m₀ w₀ ι act w hs ha hr => ?_⟩
        refine wp_mono (k3 ι₀ m₀ w₀ ι act w hs ha hr) ?_
        rintro e2 act2 w2 ⟨κ, a2, m2, ⟨rfl, rfl, rfl⟩, ha2, hr2, hs2⟩
        have hp : Post ι₀ m₀ w₀ (At e2 a2 m2) e2 act2 w2 := ⟨κ, a2, m2, ⟨rfl, rfl, rfl⟩, ha2, hr2, hs2⟩
        cases e2 with
        | normal => exact absurd h (hne _ _)
        | _ => exact hp
    refine ⟨fun c f f' a m m' M e hf hm h => ?_, hloop⟩
    cases c
    case loop x =>
      obtain ⟨a', M', k1, k2, k3, k4⟩ := hloop x f f' a m m' M e hf hm h
      exact ⟨a', M', k1, k2, fun ι₀ m₀ w₀ ι act w hs ha hr => wp_loop_rounds (n + 1) (k4 ι₀ m₀ w₀ ι act w hs ha hr), k3⟩
    all_goals rw [hs] at h; simp only [fStepC] at h
    case skip => cases h; exact ⟨a, M, hf, hm, AW_skip ⟨rfl, rfl, rfl⟩, Ext.refl _⟩
    case label => cases h; exact ⟨a, M, hf, hm, AW_label ⟨rfl, rfl, rfl⟩, Ext.refl _⟩
    case exit => cases h; exact ⟨a, M, hf, hm, AW_exit ⟨rfl, rfl, rfl⟩, Ext.refl _⟩
    case ret => cases h; exact ⟨a, M, hf, hm, AW_ret ⟨rfl, rfl, rfl⟩, Ext.refl _⟩
    case seq x y =>
      unfold kSeq at h
      split at h
      · rename_i f1 m1 h1
        obtain ⟨a1, M1, k1, k2, k3, k4⟩ := ih.1 _ _ _ _ _ _ _ _ hf hm h1
        obtain ⟨a2, M2, k5, k6, k7, k8⟩ := ih.1 _ _ _ _ _ _ _ _ k1 k2 h
        refine ⟨a2, M2, k5, k6, AW_seq (k3.mono ?_), k4.trans k8⟩
        rintro _ _ _ ⟨rfl, rfl, rfl⟩
        exact k7
      · rename_i hne
        obtain ⟨a1, M1, k1, k2, k3, k4⟩ := ih.1 _ _ _ _ _ _ _ _ hf hm h
        refine ⟨a1, M1, k1, k2, AW_seq (k3.mono ?_), k4⟩
        rintro e2 a2 m2 ⟨rfl, rfl, rfl⟩
        cases e2 with
        | normal => exact absurd h (hne _ _)
        | _ => exact ⟨rfl, rfl, rfl⟩
    case cond c x y =>
      unfold kCond at h
      split at h <;> first | (cases h; done) | skip
      · rename_i hcv
        obtain ⟨a1, M1, k1, k2, k3, k4⟩ := ih.1 _ _ _ _ _ _ _ _ hf hm h
        exact ⟨a1, M1, k1, k2, AW_cond (fEval_spec hf hcv) (fun _ => k3) (fun e => by cases e), k4⟩
      · rename_i hcv
        obtain ⟨a1, M1, k1, k2, k3, k4⟩ := ih.1 _ _ _ _ _ _ _ _ hf hm h
        exact ⟨a1, M1, k1, k2, AW_cond (fEval_spec hf hcv) (fun e => by cases e) (fun _ => k3), k4⟩
    case block i x =>
      unfold kBlock at h
      split at h
      · rename_i j f1 m1 h1
        obtain ⟨a1, M1, k1, k2, k3, k4⟩ := ih.1 _ _ _ _ _ _ _ _ hf hm h1
        have e1 : f1 = f' ∧ m1 = m' ∧ e = if j = i then .normal else .exit j := by
          cases hb : Nat.beq j i with
          | true => rw [hb] at h; cases h; rw [if_pos (Nat.eq_of_beq_eq_true hb)]; exact ⟨rfl, rfl, rfl⟩
          | false => rw [hb] at h; cases h; rw [if_neg (Nat.ne_of_beq_eq_false hb)]; exact ⟨rfl, rfl, rfl⟩
        obtain ⟨rfl, rfl, rfl⟩ := e1
        refine ⟨a1, M1, k1, k2, AW_block (k3.mono ?_), k4⟩
        rintro _ _ _ ⟨rfl, rfl, rfl⟩
        simp only [inBlockA]
        split
        · exact ⟨rfl, rfl, rfl⟩
        · exact ⟨rfl, rfl, rfl⟩
      · rename_i hne
        obtain ⟨a1, M1, k1, k2, k3, k4⟩ := ih.1 _ _ _ _ _ _ _ _ hf hm h
        refine ⟨a1, M1, k1, k2, AW_block (k3.mono ?_), k4⟩
        rintro e2 a2 m2 ⟨rfl, rfl, rfl⟩
        cases e2 with
        | exit j => exact absurd h (hne _ _ _)
        | _ => exact ⟨rfl, rfl, rfl⟩
    case region id ops d =>
      unfold kRegion at h
      split at h <;> first | (cases h; done) | skip
      rename_i f1 m1 h1
      cases h
      exact fRegion_run hc hmix hf hm h1
    all_goals cases h
end
theorem fResults_spec {P : Program} {f : Fr} {a : List Value} {m : FMem} {M : Mem} (hf : FR f a) (hm : MR m M) : ∀ (l : List ResultVar) {r : List Value}, fResults P f m l = some r → aResults P a M l = some r
  | [], r, h => h
  | x :: l, r, h => by
    have e : fResults P f m (x :: l) = match fResult P f m x with | some v => (match fResults P f m l with | some l => some (v :: l) | none => none) | none => none := rfl
    rw [e] at h
    unfold aResults
    split at h <;> first | (cases h; done) | skip
    rename_i v hv
    split at h <;> first | (cases h; done) | skip
    rename_i r' hr
    cases h
    have hv' : aResult P a M x = some v := by
      cases x with
      | tmp t => exact hf.2 t v hv
      | cell p t =>
        simp only [fResult] at hv
        unfold fLoad at hv
        split at hv <;> first | (cases hv; done) | skip
        rename_i q hq
        simp only [aResult, hf.2 p q hq]
        exact gLoad_mono hm.2.2 hv
    simp only [hv', fResults_spec hf hm l hr]
theorem fCall_good {P : Program} (hmix : P.follows .mixedOrders = true) {T : Caller} (hT : Good P T) (L : Nat) : ∀ n, Good P (fCall P T L n)
  | 0 => fun k xs f v f' h => by
    have e : fCall P T L 0 k xs f = none := rfl
    rw [e] at h; cases h
  | n + 1 => fun k xs m v m' h M hm => by
    have e : fCall P T L (n + 1) k xs m = match T k xs m with | some r => some r | none => fFn P (fCall P T L n) L P.funcs[k]? xs m := rfl
    rw [e] at h
    split at h
    · rename_i r hr
      cases h
      exact hT _ _ _ _ _ hr M hm
    · unfold fFn at h
      split at h <;> first | (cases h; done) | skip
      rename_i fn hf
      split at h <;> first | (cases h; done) | skip
      rename_i c hb
      unfold fBody at h
      split at h <;> first | (cases h; done) | skip
      rename_i ex fr m1 h1
      obtain ⟨a', M1, k1, k2, k3, k4⟩ := (fCode_run (fCall_good hmix hT L n) hmix L).1 _ _ _ _ _ _ _ _ (fFrame_FR fn xs) hm h1
      have key : (ex = .ret ∨ ex = .normal) ∧ aAnswer P fn.results.toList a' M1 = some v ∧ m1 = m' := by
        have ans : ∀ {u : Value}, fAnswer P fn.results.toList fr m1 = some u → aAnswer P fn.results.toList a' M1 = some u := fun hu => by
          unfold fAnswer at hu
          unfold aAnswer
          split at hu <;> first | (cases hu; done) | skip
          · rename_i v0 hv0; cases hu; simp only [fResults_spec k1 k2 _ hv0]
          · rename_i l hne hl
            cases hu
            simp only [fResults_spec k1 k2 _ hl]
        unfold fEnd at h
        split at h <;> first | (cases h; done) | skip
        all_goals
          split at h <;> first | (cases h; done) | skip
          rename_i v1 hv1
          rw [forceV_eq] at h
          cases h
          exact ⟨by simp, ans hv1, rfl⟩
      obtain ⟨e1, e2, rfl⟩ := key
      refine ⟨M1, k2, Spec.of hf hb (k3.mono ?_), k4⟩
      rintro _ _ _ ⟨rfl, rfl, rfl⟩
      exact ⟨e1, v, e2, rfl, rfl⟩
end Go.Proofs.YtpmgackgcefalaaGreat.Abs
namespace Go.Proofs.YtpmgackgcefalaaGreat.Abs
open Go
abbrev AL := List (Nat × Value)
def AL.get : AL → Nat → Option Value
  | [], _ => none
  | (s, v) :: r, t => if s = t then some v else AL.get r t
def Knows (n : Nat) (f : AL) (a : List Value) : Prop := a.length = n ∧ ∀ t v, AL.get f t = some v → a[t]? = some v
def AL.look (f : AL) (x : Operand) : Option Value := match x with
  | .tmp t => AL.get f t
  | .const v => if flat 3 v = true then some v else none
  | .func k => some (.func (.func k) #[] #[])
  | .global _ => none
theorem Knows.look {n : Nat} {f : AL} {a : List Value} (h : Knows n f a) (x : Operand) (v : Value) (hx : AL.look f x = some v) : aEval a x = some v := by
  cases x with
  | tmp t => exact h.2 t v hx
  | const c => exact hx
  | func k => exact hx
  | global g => cases hx
theorem Knows.put {n : Nat} {f : AL} {a : List Value} (h : Knows n f a) {t : Nat} (ht : t < n) (v : Value) : Knows n ((t, v) :: f) (a.set t v) := by
  refine ⟨by simp [h.1], fun s u hs => ?_⟩
  simp only [AL.get] at hs
  rw [List.getElem?_set]
  split at hs
  · rename_i e
    rw [if_pos e, if_pos (by rw [h.1]; exact ht)]
    exact hs
  · rename_i e
    rw [if_neg e]
    exact h.2 s u hs
theorem Knows.less {n : Nat} {f f' : AL} {a : List Value} (h : Knows n f a) (hs : ∀ t v, AL.get f' t = some v → AL.get f t = some v) : Knows n f' a := ⟨h.1, fun t v hv => h.2 t v (hs t v hv)⟩
class Box (α : Type) where
  k : α
def sPut (n : Nat) (d : Option Nat) (v : Value) (f : AL) [c : Box (AL → Prop)] : Prop := match d with
  | none => c.k f
  | some t => t < n ∧ c.k ((t, v) :: f)
theorem sPut_spec {n : Nat} {d : Option Nat} {v : Value} {f : AL} {k : AL → Prop} (h : @sPut n d v f ⟨k⟩) {a : List Value} (ha : Knows n f a) : ∃ f', Knows n f' (aPut a d v) ∧ k f' := by
  cases d with
  | none => exact ⟨f, ha, h⟩
  | some t => exact ⟨_, ha.put h.1 v, h.2⟩
def aBinI (op : BinOp) (k : IntKind) (a : Int) (k' : IntKind) (b : Int) : Option Value := match op with
  | .shl => if 0 ≤ b then some (.int k (k.wrap (a * 2 ^ min b.toNat k.bits))) else none
  | .shr => if 0 ≤ b then some (.int k (a.fdiv (2 ^ min b.toNat k.bits))) else none
  | op => if k = k' then aInt op k a b else none
theorem aBin_ii (P : Program) (op : BinOp) (t : TypeId) (cx : Bool) (k k' : IntKind) (a b : Int) : aBin P op t cx (.int k a) (.int k' b) = aBinI op k a k' b := by cases op <;> rfl
theorem aBin_ss (P : Program) (op : BinOp) (t : TypeId) (cx : Bool) (a b : ByteArray) : aBin P op t cx (.string a) (.string b) = aStr op a b := rfl
def withV {α : Type} (o : Option α) [c : Box (α → Prop)] : Prop := match o with
  | some v => c.k v
  | none => False
theorem withV_some {α : Type} (v : α) (k : α → Prop) : @withV α (some v) ⟨k⟩ = k v := rfl
def Later [c : Box Prop] : Prop := c.k
theorem withV_ite {α : Type} (c : Prop) [Decidable c] (o : Option α) (k : α → Prop) : @withV α (if c then o else none) ⟨k⟩ = (c ∧ @withV α o ⟨k⟩) := by
  by_cases h : c <;> simp [h, withV]
theorem withV_spec {α : Type} {o : Option α} {k : α → Prop} (h : @withV α o ⟨k⟩) : ∃ v, o = some v ∧ k v := by
  cases o with
  | none => exact h.elim
  | some v => exact ⟨v, rfl, h⟩
def sArgs (g : Look) : List Operand → Option (List Value)
  | [] => some []
  | x :: r => match g x with
    | some v => match sArgs g r with
      | some l => some (v :: l)
      | none => none
    | none => none
def sParts (g : Look) : List (Nat × Operand) → Option (List (Nat × Value))
  | [] => some []
  | (i, x) :: r => match g x with
    | some v => match sParts g r with
      | some l => some ((i, v) :: l)
      | none => none
    | none => none
def sBin (P : Program) (op : BinOp) (t : TypeId) (cx : Bool) (x y : Option Value) : Option Value := match x, y with
  | some u, some v => aBin P op t cx u v
  | _, _ => none
def sConv (P : Program) (get : Nat → Option Blk) (s d : TypeId) (x : Option Value) : Option Value := match x with
  | some (.int _ n) => match P.underlying s with
    | some _ => match P.underlying d with
      | some (.int k) => some (.int k (k.wrap n))
      | _ => none
    | none => none
  | some (.string q) => match P.underlying d with
    | some .string => match P.underlying s with | some _ => some (.string q) | none => none
    | _ => none
  | some x => gToString P get s d x
  | none => none
def sVal (P : Program) (g : Look) (get : Nat → Option Blk) (o : Op) : Option Value :=
  match o with
  | .move x => g x
  | .assign x => g x
  | .pick c x y => vPick (g c) (g x) (g y)
  | .build t ps => vBuild P t (sParts g ps.toList)
  | .load t p => vLoad P get t (g p)
  | .nilCheck x => vNil (g x)
  | .binOp op t x y _ => sBin P op t (isC x || isC y) (g x) (g y)
  | .unOp op _ x => vUn op (g x)
  | .convert s d x => sConv P get s d (g x)
  | .makeInterface t x => vIface P t (g x)
  | .makeFunc fn fs cs => vFunc fn (sArgs g fs.toList) (sArgs g cs.toList)
  | .slice t x lo hi mx => vSlice P get t (g x) (fOpt g lo) (fOpt g hi) mx
  | .fieldAddr t x f => vFieldAddr P t (g x) f
  | .field t x f => vField P t (g x) f
  | .indexAddr t x i => vIndexAddr P t (g x) (g i)
  | .index t x i => vIndex P t (g x) (g i)
  | .extract x i => vExtract (g x) i
  | .call c => vCall P c.callee c.argTypes.toList (sArgs g c.args.toList)
  | _ => none
theorem sArgs_eq (g : Look) : ∀ l, sArgs g l = fArgs g l
  | [] => rfl
  | x :: r => by
    have e : fArgs g (x :: r) = match g x with | some v => (match fArgs g r with | some r => some (v :: r) | none => none) | none => none := rfl
    rw [e, ← sArgs_eq g r]; rfl
theorem sParts_eq (g : Look) : ∀ l, sParts g l = fParts g l
  | [] => rfl
  | (i, x) :: r => by
    have e : fParts g ((i, x) :: r) = match g x with | some v => (match fParts g r with | some l => some ((i, v) :: l) | none => none) | none => none := rfl
    rw [e, ← sParts_eq g r]; rfl
theorem sVal_spec {P : Program} {g : Look} {a : List Value} (hg : ∀ x v, g x = some v → aEval a x = some v) {get : Nat → Option Blk} {m : Mem} (hm : ∀ b x, get b = some x → m.get b = some x) {o : Op} {v : Value} (h : sVal P g get o = some v) : evOp P o a m = some (v, m) := by
  by_cases hb : ∃ op t x y ty, o = .binOp op t x y ty
  · obtain ⟨op, t, x, y, ty, rfl⟩ := hb
    simp only [sVal] at h
    unfold sBin at h
    split at h <;> first | (cases h; done) | skip
    rename_i u w hu hw
    simp only [evOp, hg x u hu, hg y w hw, h, pureV]
  by_cases hc : ∃ s d x, o = .convert s d x
  · obtain ⟨s, d, x, rfl⟩ := hc
    simp only [sVal] at h
    unfold sConv at h
    split at h <;> first | (cases h; done) | skip
    · rename_i k n hx
      split at h <;> first | (cases h; done) | skip
      rename_i hs
      split at h <;> first | (cases h; done) | skip
      rename_i k' hd
      cases h
      simp only [evOp, hg x _ hx, evConvert, hs, hd]
    · rename_i q hx
      split at h <;> first | (cases h; done) | skip
      rename_i hd
      split at h <;> first | (cases h; done) | skip
      rename_i hs
      cases h
      simp only [evOp, hg x _ hx, evConvert, hd, hs]
    · rename_i u hne hne' hx
      have : aToString P m s d u = some v := gToString_mono hm h
      simp only [evOp, hg x _ hx]
      unfold evConvert
      split
      · exact absurd rfl (hne _ _)
      · exact absurd rfl (hne' _)
      · simp only [this]
  have e : fVal P g get o = sVal P g get o := by
    cases o <;> simp only [fVal, sVal, sArgs_eq, sParts_eq] <;> first | rfl | skip
    · exact absurd ⟨_, _, _, _, _, rfl⟩ hb
    · exact absurd ⟨_, _, _, rfl⟩ hc
  exact fVal_spec hg hm (by rw [e]; exact h)
def nBox (P : Program) (t : TypeId) (v : Value) : Option Blk := if oneAll v.cells.toList = true then some (.cells false (aStride P t) v.cells.toList) else none
def nAlloc (P : Program) (t : TypeId) : Option Blk :=
  match P.info? t with
  | some i => match i.zero with
    | some z => if flat 3 z = true then nBox P t z else none
    | none => none
  | none => none
def nBuildSlice (P : Program) (t : TypeId) (len : Nat) (parts : List (Nat × Value)) : Option Blk :=
  match P.underlying t with
  | some (.slice e) => match P.info? e with
    | some ie => match ie.zero with
      | some z => if flat 3 z = true ∧ len * ie.size ≤ 16777216 ∧ 0 < len * ie.size ∧ 0 < z.cells.toList.length ∧ oneAll z.cells.toList = true ∧ parts.all (fun p => oneAll p.2.cells.toList) = true then
          match aFill (fun i => some (i * ie.size, ie.size)) (aZeros z.cells.toList (len * ie.size)) parts with
          | some cs => some (.cells false ie.size cs)
          | none => none
        else none
      | none => none
    | none => none
  | _ => none
def nToBytes (P : Program) (src dst : TypeId) (s : ByteArray) : Option Blk :=
  match P.underlying src with
  | some .string => match P.underlying dst with
    | some (.slice e) => match P.underlying e with
      | some (.int .u8) => if bsize s ≤ 140737488355328 then some (.cells false 1 (byteCells' s)) else none
      | _ => none
    | _ => none
  | _ => none
def sNew (P : Program) (g : Look) (n : Nat) (o : Op) : Option (Value × Blk) :=
  match o with
  | .alloc t => match nAlloc P t with
    | some b => some (.pointer (some ⟨n, 0, none⟩), b)
    | none => none
  | .box t x => match g x with
    | some v => match nBox P t v with
      | some b => some (.pointer (some ⟨n, 0, none⟩), b)
      | none => none
    | none => none
  | .buildSlice t len ps => match sParts g ps.toList with
    | some l => match nBuildSlice P t len l with
      | some b => some (.slice (some ⟨n, 0, none⟩) len len, b)
      | none => none
    | none => none
  | .convert s d x => match g x with
    | some (.string q) => match P.underlying d with
      | some .string => none
      | _ => match nToBytes P s d q with
        | some b => some (.slice (some ⟨n, 0, none⟩) (bsize q) (bsize q), b)
        | none => none
    | _ => none
  | _ => none
theorem nBox_spec {P : Program} {m : Mem} {t : TypeId} {v : Value} {b : Blk} (h : nBox P t v = some b) : aBox P m t v = some (.pointer (some ⟨m.size, 0, none⟩), m.push b) ∧ ownB (some b) = true := by
  unfold nBox at h
  unfold aBox
  split at h <;> first | (cases h; done) | skip
  rename_i hc
  cases h
  rw [if_pos hc]
  exact ⟨rfl, rfl⟩
theorem sNew_spec {P : Program} {g : Look} {a : List Value} (hg : ∀ x v, g x = some v → aEval a x = some v) {m : Mem} {o : Op} {v : Value} {b : Blk} (h : sNew P g m.size o = some (v, b)) : evOp P o a m = some (v, m.push b) ∧ ownB (some b) = true := by
  cases o <;> simp only [sNew] at h <;> first | (cases h; done) | skip
  case alloc t =>
    split at h <;> first | (cases h; done) | skip
    rename_i b' hb
    cases h
    unfold nAlloc at hb
    split at hb <;> first | (cases hb; done) | skip
    rename_i i hi
    split at hb <;> first | (cases hb; done) | skip
    rename_i z hz
    split at hb <;> first | (cases hb; done) | skip
    rename_i hf
    obtain ⟨h1, h2⟩ := nBox_spec (m := m) hb
    exact ⟨by simp only [evOp, aAlloc, hi, hz, if_pos hf, h1], h2⟩
  case box t x =>
    split at h <;> first | (cases h; done) | skip
    rename_i u hu
    split at h <;> first | (cases h; done) | skip
    rename_i b' hb
    cases h
    obtain ⟨h1, h2⟩ := nBox_spec (m := m) hb
    exact ⟨by simp only [evOp, hg x u hu, h1], h2⟩
  case buildSlice t len ps =>
    split at h <;> first | (cases h; done) | skip
    rename_i l hl
    rw [sParts_eq] at hl
    split at h <;> first | (cases h; done) | skip
    rename_i b' hb
    cases h
    unfold nBuildSlice at hb
    split at hb <;> first | (cases hb; done) | skip
    rename_i e hu
    split at hb <;> first | (cases hb; done) | skip
    rename_i ie hi
    split at hb <;> first | (cases hb; done) | skip
    rename_i z hz
    split at hb <;> first | (cases hb; done) | skip
    rename_i hc
    split at hb <;> first | (cases hb; done) | skip
    rename_i cs hcs
    cases hb
    exact ⟨by simp only [evOp, fParts_spec hg _ hl, aBuildSlice, hu, hi, hz, if_pos hc, hcs], rfl⟩
  case convert s d x =>
    split at h <;> first | (cases h; done) | skip
    rename_i q hx
    split at h <;> first | (cases h; done) | skip
    rename_i hne
    split at h <;> first | (cases h; done) | skip
    rename_i b' hb
    cases h
    unfold nToBytes at hb
    split at hb <;> first | (cases hb; done) | skip
    rename_i hs
    split at hb <;> first | (cases hb; done) | skip
    rename_i e hd
    split at hb <;> first | (cases hb; done) | skip
    rename_i he
    split at hb <;> first | (cases hb; done) | skip
    rename_i hc
    cases hb
    exact ⟨by simp only [evOp, hg x _ hx, evConvert, hd, aToBytes, hs, he, if_pos hc], rfl⟩
def sMem (P : Program) (g : Look) (m : Mem) (o : Op) : Option (Value × Mem) :=
  match o with
  | .store t p x => match g p with
    | some q => match g x with
      | some v => match aStore P m t q v with
        | some m' => some (undef, m')
        | none => none
      | none => none
    | none => none
  | .makeSlice t l c => match g l with
    | some u => match g c with
      | some v => aMakeSlice P m t u v
      | none => none
    | none => none
  | .call c => match c.callee with
    | .builtin b => match b with
      | .append => match c.argTypes.toList with
        | [t, tx] => match sArgs g c.args.toList with
          | some [s, x] => aAppend P m t tx s x
          | _ => none
        | _ => none
      | _ => none
    | _ => none
  | _ => none
theorem sMem_spec {P : Program} {g : Look} {a : List Value} (hg : ∀ x v, g x = some v → aEval a x = some v) {m m' : Mem} {o : Op} {v : Value} (h : sMem P g m o = some (v, m')) : evOp P o a m = some (v, m') := by
  cases o <;> simp only [sMem] at h <;> first | (cases h; done) | skip
  case store t p x =>
    split at h <;> first | (cases h; done) | skip
    rename_i q hq
    split at h <;> first | (cases h; done) | skip
    rename_i u hu
    split at h <;> first | (cases h; done) | skip
    rename_i m1 h1
    cases h
    simp only [evOp, hg p q hq, hg x u hu, h1]
  case makeSlice t l c =>
    split at h <;> first | (cases h; done) | skip
    rename_i u hu
    split at h <;> first | (cases h; done) | skip
    rename_i q hq
    simp only [evOp, hg l u hu, hg c q hq, h]
  case call c =>
    obtain ⟨callee, args, ts⟩ := c
    cases callee <;> simp only at h <;> first | (cases h; done) | skip
    rename_i b
    cases b <;> simp only at h <;> first | (cases h; done) | skip
    split at h <;> first | (cases h; done) | skip
    rename_i t tx ht
    split at h <;> first | (cases h; done) | skip
    rename_i s x hxs
    rw [sArgs_eq] at hxs
    simp only [evOp, fArgs_spec hg _ hxs, evBuiltin, ht, h]
inductive Kind | val | new | mem | fn
def kindB (b : Builtin) : Kind := match b with
  | .append => .mem
  | _ => .val
def kindC (c : Callee) : Kind := match c with
  | .builtin b => kindB b
  | _ => .fn
def kindT (d : Option TypeDesc) : Kind := match d with
  | some (.slice _) => .new
  | _ => .val
def kind (P : Program) (o : Op) : Kind :=
  match o with
  | .alloc _ => .new
  | .box .. => .new
  | .buildSlice .. => .new
  | .store .. => .mem
  | .makeSlice .. => .mem
  | .convert _ d _ => kindT (P.underlying d)
  | .call c => kindC c.callee
  | _ => .val
def sCallee (g : Look) (o : Op) : Option (FuncId × List Value) := match o with
  | .call c => match c.callee with
    | .value f => match g f with
      | some (.func (.func k) fs cs) => match sArgs g c.args.toList with
        | some xs => some (k, fs.toList ++ xs ++ cs.toList)
        | none => none
      | _ => none
    | _ => none
  | _ => none
theorem sCallee_eq (g : Look) (o : Op) : sCallee g o = fCallee g o := by
  cases o <;> simp only [sCallee, fCallee, sArgs_eq] <;> rfl
def sOp (P : Program) (o : Op) (f : AL) (m : Mem) [c : Box (Value → Mem → Prop)] : Prop :=
  match kind P o with
  | .val => @withV _ (sVal P (AL.look f) m.get o) ⟨fun v => c.k v m⟩
  | .new => @withV _ (sNew P (AL.look f) m.size o) ⟨fun p => c.k p.1 (m.push p.2)⟩
  | .mem => @withV _ (sMem P (AL.look f) m o) ⟨fun p => c.k p.1 p.2⟩
  | .fn => @withV _ (sCallee (AL.look f) o) ⟨fun p => entered P p.1 = true ∧ ∃ R, Spec P p.1 p.2 m R ∧ @Later ⟨∀ v m', R v m' → c.k v m'⟩⟩
def sGuard (all : List Oper) (o : Oper) (f : AL) [y : Box (Unit → Prop)] [n : Box (Nat → Prop)] : Prop := match o.guard with
  | none => y.k ()
  | some (j, w) => match all[j]? with
    | some p => match p.dst with
      | some t => match AL.get f t with
        | some (.bool b) => if Region.wanted o (fun _ => some b) = true then y.k () else n.k 0
        | some (.tuple _) => if Region.wanted o (fun _ => none) = true then y.k () else n.k 0
        | _ => False
      | none => False
    | none => False
theorem sGuard_spec {all : List Oper} {o : Oper} {f : AL} {y n : Prop} (h : @sGuard all o f ⟨fun _ => y⟩ ⟨fun _ => n⟩) {k : Nat} {a : List Value} (ha : Knows k f a) : (Region.wanted o (aYielded all a) = true ∧ y) ∨ (Region.wanted o (aYielded all a) = false ∧ n) := by
  unfold sGuard at h
  split at h
  · rename_i hg
    left
    exact ⟨by unfold Region.wanted; rw [hg], h⟩
  · rename_i j w hg
    have key : ∀ r : Option Bool, aYielded all a j = r → Region.wanted o (aYielded all a) = Region.wanted o fun _ => r := fun r hr =>
      wanted_congr o fun i b hi => by rw [hg] at hi; cases hi; exact hr
    split at h <;> first | exact h.elim | skip
    rename_i p hp
    split at h <;> first | exact h.elim | skip
    rename_i t ht
    split at h <;> first | exact h.elim | skip
    · rename_i b hb
      rw [key (some b) (by simp only [aYielded, hp, ht, ha.2 t _ hb])]
      split at h
      · rename_i hw; exact .inl ⟨hw, h⟩
      · rename_i hw; exact .inr ⟨by simpa using hw, h⟩
    · rename_i cs hb
      rw [key none (by simp only [aYielded, hp, ht, ha.2 t _ hb])]
      split at h
      · rename_i hw; exact .inl ⟨hw, h⟩
      · rename_i hw; exact .inr ⟨by simpa using hw, h⟩
def sWant (all : List Oper) (o : Oper) (f : AL) : Option Bool := match o.guard with
  | none => some true
  | some (j, w) => match all[j]? with
    | some p => match p.dst with
      | some t => match AL.get f t with
        | some (.bool b) => some (Region.wanted o fun _ => some b)
        | some (.tuple _) => some (Region.wanted o fun _ => none)
        | _ => none
      | none => none
    | none => none
theorem sWant_spec {all : List Oper} {o : Oper} {f : AL} {b : Bool} (h : sWant all o f = some b) {k : Nat} {a : List Value} (ha : Knows k f a) : Region.wanted o (aYielded all a) = b := by
  unfold sWant at h
  split at h
  · rename_i hg
    cases h
    unfold Region.wanted
    rw [hg]
  · rename_i j w hg
    have key : ∀ r : Option Bool, aYielded all a j = r → Region.wanted o (aYielded all a) = Region.wanted o fun _ => r := fun r hr =>
      wanted_congr o fun i b hi => by rw [hg] at hi; cases hi; exact hr
    split at h <;> first | (cases h; done) | skip
    rename_i p hp
    split at h <;> first | (cases h; done) | skip
    rename_i t ht
    split at h <;> first | (cases h; done) | skip
    · rename_i b hb
      cases h
      exact key (some b) (by simp only [aYielded, hp, ht, ha.2 t _ hb])
    · rename_i cs hb
      cases h
      exact key none (by simp only [aYielded, hp, ht, ha.2 t _ hb])
def sFun (P : Program) (o : Op) (f : AL) (m : Mem) : Option (Value × Mem) := match kind P o with
  | .val => match sVal P (AL.look f) m.get o with
    | some v => some (v, m)
    | none => none
  | .new => match sNew P (AL.look f) m.size o with
    | some p => some (p.1, m.push p.2)
    | none => none
  | .mem => sMem P (AL.look f) m o
  | .fn => none
theorem sFun_spec {P : Program} {o : Op} {f : AL} {m m' : Mem} {v : Value} (h : sFun P o f m = some (v, m')) {k : Nat} {a : List Value} (ha : Knows k f a) : evOp P o a m = some (v, m') := by
  have hg := ha.look
  unfold sFun at h
  split at h
  · split at h <;> first | (cases h; done) | skip
    rename_i u hu
    cases h
    exact sVal_spec hg (fun _ _ h => h) hu
  · split at h <;> first | (cases h; done) | skip
    rename_i p hp
    cases h
    exact (sNew_spec hg hp).1
  · exact sMem_spec hg h
  · cases h
def sGuarded (w : Option Bool) (x : Option (Value × Mem)) (m : Mem) : Option (Value × Mem) := match w with
  | some true => x
  | some false => some (undef, m)
  | none => none
def isFn : Kind → Bool
  | .fn => true
  | _ => false
def sOne (P : Program) (n : Nat) (all : List Oper) (o : Oper) (f : AL) (m : Mem) [c : Box (AL → Mem → Prop)] : Prop := match o.guard with
  | none => @sOp P o.op f m ⟨fun v m' => @sPut n o.dst v f ⟨fun f' => c.k f' m'⟩⟩
  | some _ => match isFn (kind P o.op) with
    | false => @withV _ (sGuarded (sWant all o f) (sFun P o.op f m) m) ⟨fun p => @sPut n o.dst p.1 f ⟨fun f' => c.k f' p.2⟩⟩
    | true => @sGuard all o f ⟨fun _ => @sOp P o.op f m ⟨fun v m' => @sPut n o.dst v f ⟨fun f' => c.k f' m'⟩⟩⟩ ⟨fun _ => @sPut n o.dst undef f ⟨fun f' => c.k f' m⟩⟩
def sOpsB (P : Program) (n : Nat) (all : List Oper) [K : Box (AL → Mem → Prop)] : List Oper → AL → Mem → Prop
  | [], f, m => K.k f m
  | o :: r, f, m => @sOne P n all o f m ⟨sOpsB P n all r⟩
def sOps (P : Program) (n : Nat) (all : List Oper) (K : AL → Mem → Prop) (l : List Oper) (f : AL) (m : Mem) : Prop := @sOpsB P n all ⟨K⟩ l f m
theorem sOp_run {P : Program} {n : Nat} {all : List Oper} {o : Oper} {f : AL} {m : Mem} {a : List Value} {Q : List Value → Mem → Prop} {r : List Oper} (ha : Knows n f a) (hw : Region.wanted o (aYielded all a) = true) {next : AL → Mem → Prop}
    (h : @sOp P o.op f m ⟨fun v m' => @sPut n o.dst v f ⟨fun f' => next f' m'⟩⟩) (hn : ∀ f' m' a', Knows n f' a' → next f' m' → aOps P all Q r a' m') : aOps P all Q (o :: r) a m := by
  simp only [aOps]
  rw [if_pos hw]
  have hg := ha.look
  unfold sOp at h
  split at h
  · obtain ⟨v, h1, h2⟩ := withV_spec h
    obtain ⟨f', h3, h4⟩ := sPut_spec h2 ha
    exact .inl ⟨v, m, sVal_spec hg (fun _ _ h => h) h1, hn f' m _ h3 h4⟩
  · obtain ⟨⟨v, b⟩, h1, h2⟩ := withV_spec h
    obtain ⟨f', h3, h4⟩ := sPut_spec h2 ha
    exact .inl ⟨v, _, (sNew_spec hg h1).1, hn f' _ _ h3 h4⟩
  · obtain ⟨⟨v, m1⟩, h1, h2⟩ := withV_spec h
    obtain ⟨f', h3, h4⟩ := sPut_spec h2 ha
    exact .inl ⟨v, m1, sMem_spec hg h1, hn f' _ _ h3 h4⟩
  · obtain ⟨⟨k, xs⟩, h1, he, R, hsp, h2⟩ := withV_spec h
    rw [sCallee_eq] at h1
    refine .inr ⟨k, xs, R, fCallee_spec hg h1, he, hsp, fun v m' hR => ?_⟩
    obtain ⟨f', h3, h4⟩ := sPut_spec (h2 v m' hR) ha
    exact hn f' _ _ h3 h4
theorem sOps_run {P : Program} {n : Nat} {all : List Oper} {K : AL → Mem → Prop} {Q : List Value → Mem → Prop} (hK : ∀ f m a, Knows n f a → K f m → Q a m) : ∀ (l : List Oper) (f : AL) (m : Mem) (a : List Value), Knows n f a → sOps P n all K l f m → aOps P all Q l a m
  | [], f, m, a, ha, h => hK f m a ha h
  | o :: r, f, m, a, ha, h => by
    have next : ∀ f' m' a', Knows n f' a' → sOps P n all K r f' m' → aOps P all Q r a' m' := fun f' m' a' h1 h2 => sOps_run hK r f' m' a' h1 h2
    simp only [sOps, sOpsB, sOne] at h
    have skip : Region.wanted o (aYielded all a) = false → (@sPut n o.dst undef f ⟨fun f' => sOps P n all K r f' m⟩) → aOps P all Q (o :: r) a m := fun hw h => by
      simp only [aOps]
      rw [if_neg (by rw [hw]; simp)]
      obtain ⟨f', h3, h4⟩ := sPut_spec h ha
      exact next f' _ _ h3 h4
    split at h
    · rename_i hg
      exact sOp_run ha (by unfold Region.wanted; rw [hg]) h next
    · split at h
      · obtain ⟨⟨v, m'⟩, h1, h2⟩ := withV_spec h
        unfold sGuarded at h1
        split at h1
        · rename_i hw
          obtain ⟨f', h3, h4⟩ := sPut_spec h2 ha
          simp only [aOps]
          rw [if_pos (sWant_spec hw ha)]
          exact .inl ⟨v, m', sFun_spec h1 ha, next f' _ _ h3 h4⟩
        · rename_i hw
          cases h1
          exact skip (sWant_spec hw ha) h2
        · cases h1
      · rcases sGuard_spec h ha with ⟨hw, h⟩ | ⟨hw, h⟩
        · exact sOp_run ha hw h next
        · exact skip hw h
def SW (P : Program) (n : Nat) (c : Code) (Q : Exit → AL → Mem → Prop) (f : AL) (m : Mem) : Prop :=
  ∀ a, Knows n f a → AW P c (fun e a' m' => ∃ f', Knows n f' a' ∧ Q e f' m') a m
section
variable {P : Program} {n : Nat} {Q : Exit → AL → Mem → Prop} {f : AL} {m : Mem}
theorem SW.mono {c : Code} {Q' : Exit → AL → Mem → Prop} (h : SW P n c Q f m) (hq : ∀ e f m, Q e f m → Q' e f m) : SW P n c Q' f m :=
  fun a ha => (h a ha).mono fun _ _ _ ⟨f', h1, h2⟩ => ⟨f', h1, hq _ _ _ h2⟩
theorem SW.less {c : Code} {f' : AL} (h : SW P n c Q f' m) (hs : ∀ t v, AL.get f' t = some v → AL.get f t = some v) : SW P n c Q f m := fun a ha => h a (ha.less hs)
theorem SW_skip (h : Q .normal f m) : SW P n .skip Q f m := fun _ ha => AW_skip ⟨f, ha, h⟩
theorem SW_exit {i : Nat} (h : Q (.exit i) f m) : SW P n (.exit i) Q f m := fun _ ha => AW_exit ⟨f, ha, h⟩
theorem SW_ret (h : Q .ret f m) : SW P n .ret Q f m := fun _ ha => AW_ret ⟨f, ha, h⟩
def sThen (next : AL → Mem → Prop) (Q : Exit → AL → Mem → Prop) : Exit → AL → Mem → Prop
  | .normal, f, m => next f m
  | e, f, m => Q e f m
theorem SW_seq {x y : Code} (h : SW P n x (sThen (SW P n y Q) Q) f m) : SW P n (.seq x y) Q f m := fun a ha => by
  refine AW_seq ((h a ha).mono ?_)
  rintro e a' m' ⟨f', h1, h2⟩
  cases e with
  | normal => exact h2 a' h1
  | _ => exact ⟨f', h1, h2⟩
theorem SW_cond {c : Operand} {x y : Code} (t : Bool) (hc : AL.look f c = some (.bool t)) (ht : t = true → SW P n x Q f m) (hf : t = false → SW P n y Q f m) : SW P n (.cond c x y) Q f m :=
  fun a ha => AW_cond (ha.look c _ hc) (fun e => ht e a ha) (fun e => hf e a ha)
def sBlock (i : Nat) (Q : Exit → AL → Mem → Prop) : Exit → AL → Mem → Prop
  | .exit j, f, m => if j = i then Q .normal f m else Q (.exit j) f m
  | e, f, m => Q e f m
theorem SW_block {i : Nat} {c : Code} (h : SW P n c (sBlock i Q) f m) : SW P n (.block i c) Q f m := fun a ha => by
  refine AW_block ((h a ha).mono ?_)
  rintro e a' m' ⟨f', h1, h2⟩
  cases e with
  | exit j =>
    simp only [sBlock] at h2
    simp only [inBlockA]
    split
    · rename_i e; rw [if_pos e] at h2; exact ⟨f', h1, h2⟩
    · rename_i e; rw [if_neg e] at h2; exact ⟨f', h1, h2⟩
  | _ => exact ⟨f', h1, h2⟩
theorem SW_loop {c : Code} (I : Nat → AL → Mem → Prop) (k₀ : Nat) (h₀ : I k₀ f m) (round : ∀ k f m, I k f m → SW P n c (sThen (fun f' m' => ∃ k', I k' f' m' ∧ k' < k) Q) f m) : SW P n (.loop c) Q f m := fun a ha => by
  -- the number of rounds left, as the least that will do
  let J : Nat → List Value → Mem → Prop := fun k a m => ∃ f, Knows n f a ∧ I k f m
  have key : ∀ k a m, J k a m → AW P (.loop c) (fun e a' m' => ∃ f', Knows n f' a' ∧ Q e f' m') a m := by
    intro k a m hJ ι₀ m₀ w₀ ι act w hs ha hr
    have run : ∀ k a m, J k a m → ∀ (ι₀ : Nat → Loc) (m₀ : Mem) (w₀ : World) (ι : Nat → Loc) (act : Act) (w : World), Step ι₀ m₀ w₀ ι m w → ARel m.Has ι a act → Rel ι m w →
        Code.rounds P c (Post ι₀ m₀ w₀ fun e a' m' => ∃ f', Knows n f' a' ∧ Q e f' m') (k + 1) act w := by
      intro k
      induction k using Nat.strongRecOn with
      | _ k ih =>
        rintro a m ⟨f, hf, hI⟩ ι₀ m₀ w₀ ι act w hs ha hr
        refine wp_mono (round k f m hI a hf ι₀ m₀ w₀ ι act w hs ha hr) ?_
        rintro e act2 w2 ⟨κ, a2, m2, ⟨f2, hf2, hq2⟩, ha2, hr2, hs2⟩
        cases e with
        | normal =>
          obtain ⟨k', hI', hlt⟩ := hq2
          have := ih k' hlt a2 m2 ⟨f2, hf2, hI'⟩ ι₀ m₀ w₀ κ act2 w2 hs2 ha2 hr2
          exact rounds_le this (by omega)
        | _ => exact ⟨κ, a2, m2, ⟨f2, hf2, hq2⟩, ha2, hr2, hs2⟩
    exact wp_loop_rounds (k + 1) (run k a m hJ ι₀ m₀ w₀ ι act w hs ha hr)
  exact key k₀ a m ⟨f, ha, h₀⟩
where
  rounds_le {c : Code} {Q : Exit → Act → World → Prop} : ∀ {j k : Nat} {a : Act} {w : World}, Code.rounds P c Q j a w → j ≤ k → Code.rounds P c Q k a w
  | 0, _, _, _, h, _ => h.elim
  | j + 1, 0, _, _, _, h => by omega
  | j + 1, k + 1, a, w, h, hle => wp_mono h fun e a' w' hq => by
    cases e with
    | normal => exact rounds_le hq (by omega)
    | _ => exact hq
theorem SW_region {id : Nat} {ops : Array Oper} (h : sOps P n ops.toList (Q .normal) ops.toList f m) : SW P n (.region id ops false) Q f m :=
  fun a ha => AW_region (sOps_run (fun f m a h1 h2 => ⟨f, h1, h2⟩) _ f m a ha h)
end
end Go.Proofs.YtpmgackgcefalaaGreat.Abs
namespace Go.Proofs.YtpmgackgcefalaaGreat.Abs
open Go Go.RowKit
def sHOp (P : Program) (n : Nat) (m0 : Mem) (al : Bool) (o : Oper) (f : AL) (M : Mem) [c : Box (Bool → AL → Mem → Prop)] : Prop := match kind P o.op with
  | .val => @withV _ (sVal P (AL.look f) m0.get o.op) ⟨fun v => @sPut n o.dst v f ⟨fun f' => c.k al f' M⟩⟩
  | .new => @withV _ (sNew P (AL.look f) M.size o.op) ⟨fun p => @sPut n o.dst p.1 f ⟨fun f' => c.k true f' (M.push p.2)⟩⟩
  | .mem => False
  | .fn => al = false ∧ @withV _ (sCallee (AL.look f) o.op) ⟨fun p => entered P p.1 = true ∧ @Later ⟨∃ v, Spec P p.1 p.2 m0 (fun u m' => u = v ∧ m' = m0) ∧ @sPut n o.dst v f ⟨fun f' => c.k al f' M⟩⟩⟩
def isVal : Kind → Bool
  | .val => true
  | _ => false
def sGuardedV (w : Option Bool) (x : Option Value) : Option Value := match w with
  | some true => x
  | some false => some undef
  | none => none
def sHOne (P : Program) (n : Nat) (all : List Oper) (m0 : Mem) (al : Bool) (o : Oper) (f : AL) (M : Mem) [c : Box (Bool → AL → Mem → Prop)] : Prop := match o.guard with
  | none => @sHOp P n m0 al o f M c
  | some _ => match isVal (kind P o.op) with
    | true => @withV _ (sGuardedV (sWant all o f) (sVal P (AL.look f) m0.get o.op)) ⟨fun v => @sPut n o.dst v f ⟨fun f' => c.k al f' M⟩⟩
    | false => @sGuard all o f ⟨fun _ => @sHOp P n m0 al o f M c⟩ ⟨fun _ => @sPut n o.dst undef f ⟨fun f' => c.k al f' M⟩⟩
def sHeadB (P : Program) (n : Nat) (all : List Oper) (m0 : Mem) [K : Box (AL → Mem → Prop)] : List Oper → Bool → AL → Mem → Prop
  | [], _, f, M => K.k f M
  | o :: r, al, f, M => @sHOne P n all m0 al o f M ⟨sHeadB P n all m0 r⟩
def sHead (P : Program) (n : Nat) (all : List Oper) (m0 : Mem) (K : AL → Mem → Prop) (al : Bool) (l : List Oper) (f : AL) (M : Mem) : Prop := @sHeadB P n all m0 ⟨K⟩ l al f M
theorem sHead_run {P : Program} {n : Nat} {ops : Array Oper} {m₀ : Mem} {a₀ : List Value} {q : Nat} {K : AL → Mem → Prop} (hq : drawOK ops q = true) (hqs : q ≤ ops.size) :
    ∀ (l : List Oper) (k : Nat) (vs : List Value) (Ns : List (List (Option Blk))) (al : Bool) (f : AL) (M : Mem), (∀ j, l[j]? = if k + j < q then ops[k + j]? else none) → k ≤ q → vs.length = k → Ns.length = k →
      Knows n f (frameAt ops (getV vs) allS a₀ k) → M = memAt m₀ (getN Ns) allS k → (al = false → ∀ j, getN Ns j = []) → (∀ j, j < k → (getN Ns j).all ownB = true) →
      (∀ i o, i < k → ops[i]? = some o → DOp P ops a₀ m₀ (getV vs) (getN Ns) i o) → sHead P n ops.toList m₀ K al l f M →
      ∃ vs' Ns' f', Knows n f' (frameAt ops (getV vs') allS a₀ q) ∧ K f' (memAt m₀ (getN Ns') allS q) ∧ (∀ j, j < q → (getN Ns' j).all ownB = true) ∧ (∀ i o, i < q → ops[i]? = some o → DOp P ops a₀ m₀ (getV vs') (getN Ns') i o) := by
  have hq0 := hq
  simp only [drawOK, Bool.and_eq_true] at hq
  obtain ⟨⟨⟨hsel, hback⟩, hap⟩, hwait⟩ := hq
  intro l
  induction l with
  | nil =>
    intro k vs Ns al f M hl hkq hvs hNs hf hm hal hown hd h
    have hk : k = q := by
      have h0 := hl 0
      rcases Nat.lt_or_ge k q with h1 | h1
      · rw [if_pos (by omega), Nat.add_zero, Array.getElem?_eq_getElem (show k < ops.size by omega)] at h0
        cases h0
      · omega
    subst hk
    exact ⟨vs, Ns, f, hf, by rw [← hm]; exact h, hown, hd⟩
  | cons o l ih =>
    intro k vs Ns al f M hl hkq hvs hNs hf hm hal hown hd h
    have hk : k < q ∧ ops[k]? = some o := by
      have h0 := hl 0
      rcases Nat.lt_or_ge k q with h1 | h1
      · rw [if_pos (by omega), Nat.add_zero] at h0
        exact ⟨h1, by simpa using h0.symm⟩
      · rw [if_neg (by omega)] at h0; cases h0
    obtain ⟨hkq', hko⟩ := hk
    obtain ⟨a, ha⟩ : ∃ a, a = frameAt ops (getV vs) allS a₀ k := ⟨_, rfl⟩
    rw [← ha] at hf
    have hslot : ∀ t, t ∈ o.looksAt ops → (frB ops a₀ (getV vs) k)[t]? = a[t]? := fun t ht => by rw [ha]; exact slot_all hap hkq' hqs hko ht
    have hev : ∀ x ∈ o.op.operands, aEval (frB ops a₀ (getV vs) k) x = aEval a x := by
      intro x hx
      cases x with
      | tmp t =>
        simp only [aEval]
        refine hslot t ?_
        simp only [Oper.looksAt, List.mem_append, List.mem_filterMap]
        exact .inl ⟨.tmp t, by simpa using hx, rfl⟩
      | _ => rfl
    have hwant : Region.wanted o (aYielded ops.toList (frB ops a₀ (getV vs) k)) = Region.wanted o (aYielded ops.toList a) := by
      refine wanted_congr o fun g b hg => ?_
      unfold aYielded
      simp only [Array.getElem?_toList]
      cases hog : ops[g]? with
      | none => rfl
      | some og =>
        cases hdg : og.dst with
        | none => simp [hdg]
        | some t =>
          simp only [hdg]
          rw [hslot t (by simp [Oper.looksAt, hg, hog, hdg])]
    have next : ∀ (v : Value) (N : List (Option Blk)) (al' : Bool) (f1 : AL), DOp P ops a₀ m₀ (getV (vs ++ [v])) (getN (Ns ++ [N])) k o → N.all ownB = true → Knows n f1 (aPut a o.dst v) → (al' = false → al = false ∧ N = []) →
        sHead P n ops.toList m₀ K al' l f1 (M.app N) →
        ∃ vs' Ns' f', Knows n f' (frameAt ops (getV vs') allS a₀ q) ∧ K f' (memAt m₀ (getN Ns') allS q) ∧ (∀ j, j < q → (getN Ns' j).all ownB = true) ∧ (∀ i o, i < q → ops[i]? = some o → DOp P ops a₀ m₀ (getV vs') (getN Ns') i o) := by
      intro v N al' f1 hD hNo hf1 hal' h
      have hlow : ∀ j, j < k → getV vs j = getV (vs ++ [v]) j := fun j hj => by rw [getV_append, if_pos (by omega)]
      have hlowN : ∀ j, j < k → getN Ns j = getN (Ns ++ [N]) j := fun j hj => by rw [getN_append, if_pos (by omega)]
      have gN : getN (Ns ++ [N]) k = N := by rw [getN_append, if_neg (by omega), if_pos (by omega)]
      have hmem : memAt m₀ (getN (Ns ++ [N])) allS k = memAt m₀ (getN Ns) allS k := by
        unfold memAt
        rw [newsAt_congrN k fun j hj => (hlowN j hj).symm]
      refine ih (k + 1) (vs ++ [v]) (Ns ++ [N]) al' f1 (M.app N) (fun j => ?_) (by omega) (by simp [hvs]) (by simp [hNs]) ?_ ?_ (fun he j => ?_) (fun j hj => ?_) (fun i oi hi hoi => ?_) h
      · have := hl (j + 1)
        rw [List.getElem?_cons_succ] at this
        rw [this, show k + (j + 1) = k + 1 + j by omega]
      · simp only [frameAt, allS, if_true, hko, Option.bind_some]
        rw [← frameAt_congr k hlow, getV_append, if_neg (by omega), if_pos (by omega)]
        rw [ha] at hf1
        exact hf1
      · rw [memAt_succ, hmem, gN, ← hm]
      · obtain ⟨h1, h2⟩ := hal' he
        rw [getN_append]
        split
        · exact hal h1 j
        · split
          · exact h2
          · rfl
      · by_cases e : j = k
        · subst e; rw [gN]; exact hNo
        · rw [← hlowN j (by omega)]; exact hown j (by omega)
      · by_cases e : i = k
        · subst e
          rw [hko] at hoi; cases hoi
          exact hD
        · exact DOp_congr (fun j hj => hlow j (by omega)) (fun j hj => hlowN j (by omega)) (hd i oi (by omega) hoi)
    have gv : ∀ v, getV (vs ++ [v]) k = v := fun v => by rw [getV_append, if_neg (by omega), if_pos (by omega)]
    have gN : ∀ N, getN (Ns ++ [N]) k = N := fun N => by rw [getN_append, if_neg (by omega), if_pos (by omega)]
    have fv : ∀ v, frB ops a₀ (getV (vs ++ [v])) k = frB ops a₀ (getV vs) k := fun v => frameAt_congr k fun j hj => by rw [getV_append, if_pos (by omega)]
    have fN : ∀ N, memB ops m₀ (getN (Ns ++ [N])) k = memB ops m₀ (getN Ns) k := fun N => by
      unfold memB memAt
      rw [newsAt_congrN k fun j hj => by rw [getN_append, if_pos (by omega)]]
    have app0 : ∀ M : Mem, M.app [] = M := fun M => by simp [Mem.app]
    have hsame : (memB ops m₀ (getN Ns) k).size = M.size := by
      rw [hm]
      unfold memB memAt Mem.size
      simp only [List.length_append]
      rw [newsAt_length (getN Ns) (B ops k) allS k]
    have hg := hf.look
    have hsub : ∀ b x, m₀.get b = some x → (memB ops m₀ (getN Ns) k).get b = some x := fun b x hx => (memAt_get _ _ _ _).2 (.inl ⟨Mem.get_lt hx, hx⟩)
    simp only [sHead, sHeadB, sHOne] at h
    have skip : Region.wanted o (aYielded ops.toList a) = false → (@sPut n o.dst undef f ⟨fun f' => sHead P n ops.toList m₀ K al l f' M⟩) → ∃ vs' Ns' f', Knows n f' (frameAt ops (getV vs') allS a₀ q) ∧ K f' (memAt m₀ (getN Ns') allS q) ∧ (∀ j, j < q → (getN Ns' j).all ownB = true) ∧ (∀ i o, i < q → ops[i]? = some o → DOp P ops a₀ m₀ (getV vs') (getN Ns') i o) := fun hw h => by
      obtain ⟨f', h3, h4⟩ := sPut_spec h hf
      refine next undef [] al f' ?_ rfl h3 (fun he => ⟨he, rfl⟩) (by rw [app0]; exact h4)
      unfold DOp
      rw [fv, gv, gN, hwant, if_neg (by rw [hw]; simp)]
      exact ⟨rfl, rfl⟩
    have val : ∀ v, Region.wanted o (aYielded ops.toList a) = true → sVal P (AL.look f) m₀.get o.op = some v → (@sPut n o.dst v f ⟨fun f' => sHead P n ops.toList m₀ K al l f' M⟩) → ∃ vs' Ns' f', Knows n f' (frameAt ops (getV vs') allS a₀ q) ∧ K f' (memAt m₀ (getN Ns') allS q) ∧ (∀ j, j < q → (getN Ns' j).all ownB = true) ∧ (∀ i o, i < q → ops[i]? = some o → DOp P ops a₀ m₀ (getV vs') (getN Ns') i o) := fun v hw h1 h2 => by
      obtain ⟨f', h3, h4⟩ := sPut_spec h2 hf
      refine next v [] al f' ?_ rfl h3 (fun he => ⟨he, rfl⟩) (by rw [app0]; exact h4)
      have := sVal_spec (P := P) hg hsub h1
      unfold DOp memOf
      rw [fv, fN, gv, gN, hwant, if_pos hw, app0]
      exact ⟨OpSim.congr (OpSim.op this ⟨rfl, rfl⟩) hev, rfl⟩
    have run : Region.wanted o (aYielded ops.toList a) = true → @sHOp P n m₀ al o f M ⟨fun al' f' M' => sHead P n ops.toList m₀ K al' l f' M'⟩ → ∃ vs' Ns' f', Knows n f' (frameAt ops (getV vs') allS a₀ q) ∧ K f' (memAt m₀ (getN Ns') allS q) ∧ (∀ j, j < q → (getN Ns' j).all ownB = true) ∧ (∀ i o, i < q → ops[i]? = some o → DOp P ops a₀ m₀ (getV vs') (getN Ns') i o) := fun hw h => by
      unfold sHOp at h
      split at h
      · obtain ⟨v, h1, h2⟩ := withV_spec h
        exact val v hw h1 h2
      · obtain ⟨⟨v, b⟩, h1, h2⟩ := withV_spec h
        obtain ⟨f', h3, h4⟩ := sPut_spec h2 hf
        rw [← hsame] at h1
        obtain ⟨h5, h6⟩ := sNew_spec (P := P) hg h1
        have e1 : ∀ M : Mem, M.push b = M.app [some b] := fun M => rfl
        refine next v [some b] true f' ?_ (by simp only [List.all_cons, h6, List.all_nil, Bool.and_self]) h3 (fun he => by cases he) (by rw [← e1]; exact h4)
        rw [e1] at h5
        unfold DOp memOf
        rw [fv, fN, gv, gN, hwant, if_pos hw]
        exact ⟨OpSim.congr (OpSim.op h5 ⟨rfl, rfl⟩) hev, by simp only [List.all_cons, h6, List.all_nil, Bool.and_self]⟩
      · exact h.elim
      · obtain ⟨hal0, h⟩ := h
        obtain ⟨⟨c, xs⟩, h1, he, v, hsp, h2⟩ := withV_spec h
        obtain ⟨f', h3, h4⟩ := sPut_spec h2 hf
        have hB : memB ops m₀ (getN Ns) k = m₀ := by
          have : ∀ i, newsAt (getN Ns) (B ops k) i = [] := by
            intro i
            induction i with
            | zero => rfl
            | succ i ih => simp [newsAt, ih, hal hal0]
          unfold memB memAt
          rw [this, List.append_nil]
        rw [sCallee_eq] at h1
        refine next v [] al f' ?_ rfl h3 (fun he => ⟨he, rfl⟩) (by rw [app0]; exact h4)
        unfold DOp memOf
        rw [fv, fN, gv, gN, hwant, if_pos hw, app0, hB]
        exact ⟨OpSim.congr (OpSim.call (fCallee_spec hg h1) he hsp) hev, rfl⟩
    split at h
    · rename_i hgd
      exact run (by unfold Region.wanted; rw [hgd]) h
    · split at h
      · obtain ⟨v, h1, h2⟩ := withV_spec h
        unfold sGuardedV at h1
        split at h1
        · rename_i hw; exact val v (sWant_spec hw hf) h1 h2
        · rename_i hw; cases h1; exact skip (sWant_spec hw hf) h2
        · cases h1
      · rcases sGuard_spec h hf with ⟨hw, h⟩ | ⟨hw, h⟩
        · exact run hw h
        · exact skip hw h
theorem SW_draw {P : Program} {n : Nat} {Q : Exit → AL → Mem → Prop} {f : AL} {m : Mem} {id : Nat} {ops : Array Oper} (hmix : P.follows .mixedOrders = true) (q : Nat) (hq : drawOK ops q = true) (hqs : Nat.ble q ops.size = true)
    (h : sHead P n ops.toList m (fun f' M => sOps P n ops.toList (Q .normal) (ops.toList.drop q) f' M) false (ops.toList.take q) f m) : SW P n (.region id ops true) Q f m := by
  intro a ha
  have hqs := Nat.le_of_ble_eq_true hqs
  obtain ⟨vs, Ns, f', h1, h2, h3, h4⟩ := sHead_run (a₀ := a) (m₀ := m) hq hqs (ops.toList.take q) 0 [] [] false f m (fun j => by rw [List.getElem?_take, Array.getElem?_toList, Nat.zero_add]) (by omega) rfl rfl ha (by simp [memAt, newsAt])
    (fun _ j => by simp [getN]) (fun j hj => by omega) (fun i o hi => by omega) h
  exact AW_draw hmix q hq hqs (getV vs) (getN Ns) h4 (sOps_run (fun f m a h1 h2 => ⟨f, h1, h2⟩) _ f' _ _ h1 h2)
def alOf : Nat → List Value → AL
  | _, [] => []
  | i, v :: r => (i, v) :: alOf (i + 1) r
theorem alOf_get : ∀ (l : List Value) (i t : Nat) (v : Value), AL.get (alOf i l) t = some v → i ≤ t ∧ l[t - i]? = some v
  | [], i, t, v, h => by cases h
  | x :: r, i, t, v, h => by
    simp only [alOf, AL.get] at h
    split at h
    · rename_i e; subst e; cases h; exact ⟨Nat.le_refl _, by simp⟩
    · rename_i e
      obtain ⟨h1, h2⟩ := alOf_get r (i + 1) t v h
      exact ⟨by omega, by rw [show t - i = (t - (i + 1)) + 1 by omega]; exact h2⟩
def sAnswer (P : Program) (rs : List ResultVar) (f : AL) (m : Mem) : Option Value := match sRes P rs f m with
  | some [v] => some v
  | some l => some (.tuple l.toArray)
  | none => none
where sRes (P : Program) : List ResultVar → AL → Mem → Option (List Value)
  | [], _, _ => some []
  | .tmp t :: r, f, m => match AL.get f t with
    | some v => match sRes P r f m with
      | some l => some (v :: l)
      | none => none
    | none => none
  | .cell p t :: r, f, m => match AL.get f p with
    | some q => match aLoad P m t q with
      | some v => match sRes P r f m with
        | some l => some (v :: l)
        | none => none
      | none => none
    | none => none
theorem sRes_spec {P : Program} {n : Nat} {f : AL} {a : List Value} {m : Mem} (ha : Knows n f a) : ∀ (rs : List ResultVar) (l : List Value), sAnswer.sRes P rs f m = some l → aResults P a m rs = some l
  | [], l, h => h
  | .tmp t :: r, l, h => by
    unfold sAnswer.sRes at h
    split at h <;> first | (cases h; done) | skip
    rename_i v hv
    split at h <;> first | (cases h; done) | skip
    rename_i l' hl
    cases h
    simp only [aResults, aResult, ha.2 t v hv, sRes_spec ha r l' hl]
  | .cell p t :: r, l, h => by
    unfold sAnswer.sRes at h
    split at h <;> first | (cases h; done) | skip
    rename_i q hq
    split at h <;> first | (cases h; done) | skip
    rename_i v hv
    split at h <;> first | (cases h; done) | skip
    rename_i l' hl
    cases h
    simp only [aResults, aResult, ha.2 p q hq, hv, sRes_spec ha r l' hl]
def sEnd (P : Program) (rs : List ResultVar) (R : Value → Mem → Prop) : Exit → AL → Mem → Prop
  | .ret, f, m => @withV _ (sAnswer P rs f m) ⟨fun v => R v m⟩
  | .normal, f, m => @withV _ (sAnswer P rs f m) ⟨fun v => R v m⟩
  | _, _, _ => False
theorem Spec.walk {P : Program} {k : FuncId} {fn : Func} {c : Code} {xs : List Value} {m : Mem} {R : Value → Mem → Prop} (hf : P.funcs[k]? = some fn) (hb : fn.body = some c) (rs : Array ResultVar) (hr : fn.results = rs) (n : Nat) (hn : fn.ntmps = n) (hx : xs.length ≤ n)
    (h : SW P n c (sEnd P rs.toList R) (alOf 0 xs) m) : Spec P k xs m R := by
  subst hr; subst hn
  refine Spec.of hf hb ((h (aFrame fn xs) ⟨by simp [aFrame]; omega, fun t v hv => ?_⟩).mono ?_)
  · obtain ⟨_, h2⟩ := alOf_get xs 0 t v hv
    unfold aFrame
    rw [List.getElem?_append, if_pos]
    · exact h2
    · exact (List.getElem?_eq_some_iff.1 h2).1
  · rintro e a' m' ⟨f', h1, h2⟩
    have ans : ∀ v, sAnswer P fn.results.toList f' m' = some v → aAnswer P fn.results.toList a' m' = some v := fun v hv => by
      unfold sAnswer at hv
      unfold aAnswer
      split at hv <;> first | (cases hv; done) | skip
      · rename_i v0 hv0; cases hv; simp only [sRes_spec h1 _ _ hv0]
      · rename_i l hne hl
        cases hv
        simp only [sRes_spec h1 _ _ hl]
    cases e <;> simp only [sEnd] at h2 <;> first | exact h2.elim | skip
    all_goals
      obtain ⟨v, h3, h4⟩ := withV_spec h2
      exact ⟨by simp, v, ans v h3, h4⟩
theorem Spec.of_below {P : Program} {k : FuncId} {xs : List Value} {m : Mem} {v : Value} (hv : flat 3 v = true) (h : ∀ (ι : Nat → Loc) (w : World) (ys : List Value), VRels m.Has ι xs ys → Rel ι m w → Calls P k ys.toArray w fun e w' => e = .returned v ∧ Below w.heap.size w w') :
    Spec P k xs m fun u m' => u = v ∧ m' = m := by
  intro ι w ys hy hr
  refine (h ι w ys hy hr).mono ?_
  rintro e w' ⟨rfl, hb⟩
  refine ⟨v, v, ι, m, ⟨rfl, rfl⟩, rfl, flat_rel 3 v hv, ⟨fun b ro s cs hbk => ?_, hr.inj⟩, ⟨hb.os, hb.tape, hb.output, hb.size, fun b h => h, fun _ _ => rfl, fun g hg _ => hb.block g hg, fun b hb => .inr ⟨b, hb, rfl⟩⟩⟩
  obtain ⟨C, e, fz, h1, h2⟩ := hr.at' b ro s cs hbk
  exact ⟨C, e, fz, by rw [hb.block _ (Array.getElem?_eq_some_iff.1 h1).1]; exact h1, h2⟩
theorem flats_eq {n : Nat → Prop} {ι : Nat → Loc} {xs ys : List Value} (hx : ∀ x ∈ xs, flat 3 x = true) (h : VRels n ι xs ys) : ys = xs := by
  apply List.ext_getElem?
  intro i
  cases hxi : xs[i]? with
  | none =>
    rw [List.getElem?_eq_none_iff] at hxi ⊢
    have := h.1; omega
  | some x =>
    obtain ⟨y, hy, hr⟩ := h.get hxi
    rw [hy, flat_eq 3 x y (hx x (List.mem_of_getElem? hxi)) hr]
theorem Spec.of_flat {P : Program} {k : FuncId} {xs : List Value} {m : Mem} {v : Value} (hx : ∀ x ∈ xs, flat 3 x = true) (hv : flat 3 v = true) (h : ∀ w, Calls P k xs.toArray w fun e w' => e = .returned v ∧ Below w.heap.size w w') :
    Spec P k xs m fun u m' => u = v ∧ m' = m :=
  Spec.of_below hv fun ι w ys hy _ => by rw [flats_eq hx hy]; exact h w
theorem Calls.of_flat {P : Program} {k : FuncId} {xs : List Value} {R : Value → Mem → Prop} (hx : ∀ x ∈ xs, flat 3 x = true) (h : Spec P k xs ⟨[]⟩ R) (w : World) :
    Calls P k xs.toArray w fun e w' => ∃ v v' κ m', R v m' ∧ e = .returned v' ∧ VRel m'.Has κ v v' ∧ Rel κ m' w' ∧ Below w.heap.size w w' := by
  refine (h (fun _ => ⟨0, 0, 0, 0⟩) w xs ⟨rfl, fun i x y h1 h2 => ?_⟩ ⟨fun b ro s cs hb => ?_, fun b b' hb => ?_⟩).mono ?_
  · rw [h1] at h2; cases h2
    exact flat_rel 3 x (hx x (List.mem_of_getElem? h1))
  · have := Mem.get_lt hb; simp [Mem.size] at this
  · obtain ⟨x, hx⟩ := Option.ne_none_iff_exists'.1 hb
    have := Mem.get_lt hx; simp [Mem.size] at this
  · rintro e w' ⟨v, v', κ, m', hR, rfl, hv, hr, hs⟩
    refine ⟨v, v', κ, m', hR, rfl, hv, hr, hs.os, hs.tape, hs.output, hs.size, fun g hg => hs.block g hg fun b ⟨s, cs, hb⟩ => ?_⟩
    have := Mem.get_lt hb; simp [Mem.size] at this
theorem Calls.of_flat_val {P : Program} {k : FuncId} {xs : List Value} {v : Value} (hx : ∀ x ∈ xs, flat 3 x = true) (hv : flat 3 v = true) (h : Spec P k xs ⟨[]⟩ fun u _ => u = v) (w : World) :
    Calls P k xs.toArray w fun e w' => e = .returned v ∧ Below w.heap.size w w' := by
  refine (Calls.of_flat hx h w).mono ?_
  rintro e w' ⟨u, v', κ, m', rfl, rfl, hr, _, hb⟩
  exact ⟨by rw [← flat_eq 3 _ _ hv hr], hb⟩
end Go.Proofs.YtpmgackgcefalaaGreat.Abs
namespace Go.Proofs.YtpmgackgcefalaaGreat.Abs
open Go Go.RowKit Go.ChangeShapes Go.WideShapes
inductive ARep (P : Program) (m : Mem) (B : Nat) : TypeId → List Value → Prop
  | bool {t : TypeId} (h : P.underlying t = some .bool) (b : Bool) : ARep P m B t [.bool b]
  | int {t : TypeId} {k : IntKind} (h : P.underlying t = some (.int k)) (n : Int) (hw : (Lit.int k n).wf = true) : ARep P m B t [.int k n]
  | string {t : TypeId} (h : P.underlying t = some .string) (s : ByteArray) (hs : s.size ≤ B) : ARep P m B t [.string s]
  | nil {t e : TypeId} (h : P.underlying t = some (.slice e)) : ARep P m B t [.slice none 0 0]
  | empty {t e : TypeId} (h : P.underlying t = some (.slice e)) (b cap : Nat) (hb : m.Has b) (hc : cap ≤ maxLen) (hB : cap ≤ B ∧ cap * P.bytesOf e ≤ reachBytes) : ARep P m B t [.slice (some ⟨b, 0, none⟩) 0 cap]
  | slice {t e : TypeId} (h : P.underlying t = some (.slice e)) (b len cap : Nat) (all : List Value) (hb : m.get b = some (.cells true (P.cellsOf e) all)) (hl : all.length = len * P.cellsOf e) (hlc : len ≤ cap) (hc : cap ≤ maxLen) (hB : cap ≤ B ∧ cap * P.bytesOf e ≤ reachBytes)
      (hx : ∀ i, i < len → ARep P m B e ((all.drop (i * P.cellsOf e)).take (P.cellsOf e))) : ARep P m B t [.slice (some ⟨b, 0, none⟩) len cap]
  | struct {t : TypeId} {fs : Array Field} (h : P.underlying t = some (.struct fs)) (cs : List Value) (hl : cs.length = P.cellsOf t) (hx : ∀ f ∈ fs.toList, ARep P m B f.type ((cs.drop f.offset).take (P.cellsOf f.type))) : ARep P m B t cs
  | array {t e : TypeId} {n : Nat} (h : P.underlying t = some (.array n e)) (cs : List Value) (hl : cs.length = P.cellsOf t) (hx : ∀ i, i < n → ARep P m B e ((cs.drop (i * P.cellsOf e)).take (P.cellsOf e))) : ARep P m B t cs
theorem ARep.mono {P : Program} {m m' : Mem} {B : Nat} {t : TypeId} {cs : List Value} (h : ARep P m B t cs) (hh : ∀ b, m.Has b → m'.Has b) (hg : ∀ b x, m.get b = some x → m'.get b = some x) : ARep P m' B t cs := by
  induction h with
  | bool h b => exact .bool h b
  | int h n hw => exact .int h n hw
  | string h s hs => exact .string h s hs
  | nil h => exact .nil h
  | empty h b cap hb hc hB => exact .empty h b cap (hh b hb) hc hB
  | slice h b len cap all hb hl hlc hc hB _ ih => exact .slice h b len cap all (hg _ _ hb) hl hlc hc hB ih
  | struct h cs hl _ ih => exact .struct h cs hl ih
  | array h cs hl _ ih => exact .array h cs hl ih
structure Lifted (ι : Nat → Loc) (m : Mem) (w : World) : Prop where
  rel : Rel ι m w
  ro : ∀ b, ¬ m.Own b
structure Lifts (ι : Nat → Loc) (m : Mem) (κ : Nat → Loc) (m' : Mem) : Prop where
  has : ∀ b, m.Has b → m'.Has b
  at_ : ∀ b, m.Has b → κ b = ι b
  get : ∀ b x, m.get b = some x → m'.get b = some x
theorem Lifts.refl (ι : Nat → Loc) (m : Mem) : Lifts ι m ι m := ⟨fun _ h => h, fun _ _ => rfl, fun _ _ h => h⟩
theorem Lifts.trans {ι κ μ : Nat → Loc} {m m' m'' : Mem} (h : Lifts ι m κ m') (k : Lifts κ m' μ m'') : Lifts ι m μ m'' :=
  ⟨fun b hb => k.has b (h.has b hb), fun b hb => (k.at_ b (h.has b hb)).trans (h.at_ b hb), fun b x hb => k.get b x (h.get b x hb)⟩
theorem Lifts.rels {ι κ : Nat → Loc} {m m' : Mem} (h : Lifts ι m κ m') {xs ys : List Value} (hr : VRels m.Has ι xs ys) : VRels m'.Has κ xs ys := hr.mono h.has h.at_
theorem Lifted.nil (w : World) : Lifted (fun _ => ⟨0, 0, 0, 0⟩) ⟨[]⟩ w :=
  ⟨⟨fun b ro s cs hb => by have := Mem.get_lt hb; simp [Mem.size] at this, fun b b' hb => by
    obtain ⟨x, hx⟩ := Option.ne_none_iff_exists'.1 hb
    have := Mem.get_lt hx; simp [Mem.size] at this⟩, fun b ⟨s, cs, hb⟩ => by have := Mem.get_lt hb; simp [Mem.size] at this⟩
def pushDead (m : Mem) : Mem := ⟨m.blks ++ [some none]⟩
theorem get_dead {m : Mem} {b : Nat} {x : Blk} (h : (pushDead m).get b = some x) : m.get b = some x := by
  have h1 := Mem.get_some h
  unfold pushDead at h1
  simp only [List.getElem?_append] at h1
  split at h1
  · unfold Mem.get; rw [h1]
  · rename_i hb
    cases hk : b - m.blks.length with
    | zero => rw [hk] at h1; simp at h1
    | succ k => rw [hk] at h1; simp at h1
theorem has_dead {m : Mem} {b : Nat} (h : m.Has b) : (pushDead m).Has b := by
  obtain ⟨o, ho⟩ := h
  have hl := (List.getElem?_eq_some_iff.1 ho).1
  exact ⟨o, by unfold pushDead; rw [List.getElem?_append, if_pos hl]; exact ho⟩
theorem has_dead_new (m : Mem) : (pushDead m).Has m.size := ⟨none, by simp [pushDead, Mem.size]⟩
theorem dead_get {m : Mem} {b : Nat} {x : Blk} (h : m.get b = some x) : (pushDead m).get b = some x := by
  have h1 := Mem.get_some h
  have hl := (List.getElem?_eq_some_iff.1 h1).1
  unfold Mem.get pushDead
  rw [List.getElem?_append, if_pos hl, h1]
theorem Lifted.dead {ι : Nat → Loc} {m : Mem} {w : World} (h : Lifted ι m w) (l : Loc) : Lifted (newLoc ι m.size l) (pushDead m) w ∧ Lifts ι m (newLoc ι m.size l) (pushDead m) := by
  have hat : ∀ b, m.Has b → newLoc ι m.size l b = ι b := fun b hb => newLoc_old l (Mem.has_lt hb)
  refine ⟨⟨⟨fun b ro s cs hb => ?_, fun b b' _ ⟨s, cs, hb'⟩ _ => absurd ⟨s, cs, get_dead hb'⟩ (h.ro b')⟩, fun b ⟨s, cs, hb⟩ => h.ro b ⟨s, cs, get_dead hb⟩⟩, ⟨fun _ => has_dead, hat, fun _ _ => dead_get⟩⟩
  have hg := get_dead hb
  rw [hat b (Mem.get_has hg)]
  obtain ⟨C, e, fz, h1, h2, h3, h4, h5, h6⟩ := h.rel.at' b ro s cs hg
  exact ⟨C, e, fz, h1, h2, h3, h4, fun i v hi => by
    obtain ⟨h7, v', h8, h9⟩ := h5 i v hi
    exact ⟨h7, v', h8, h9.mono (fun _ => has_dead) hat⟩, h6⟩
theorem Lifted.push {ι : Nat → Loc} {m : Mem} {w : World} (h : Lifted ι m w) (l : Loc) (cs : List Value) (C : Array Value) (e : TypeId) (fz : Nat × Nat) (hC : w.heap[l.blk]? = some (.cells C e fz)) (hs : C.size = l.size) (hl : l.base + cs.length ≤ C.size)
    (hv : ∀ i v, cs[i]? = some v → v.oneCell' = true ∧ ∃ v', C[l.base + i]? = some v' ∧ VRel m.Has ι v v') : Lifted (newLoc ι m.size l) (m.push (.cells true l.stride cs)) w ∧ Lifts ι m (newLoc ι m.size l) (m.push (.cells true l.stride cs)) := by
  have hat : ∀ b, m.Has b → newLoc ι m.size l b = ι b := fun b hb => newLoc_old l (Mem.has_lt hb)
  have hnot : ∀ b, ¬ (m.push (.cells true l.stride cs)).Own b := by
    rintro b ⟨s, cs', hb⟩
    rcases Mem.get_push hb with ⟨_, hg⟩ | ⟨_, hx⟩
    · exact h.ro b ⟨s, cs', hg⟩
    · cases hx
  have mono : ∀ {v v' : Value}, VRel m.Has ι v v' → VRel (m.push (.cells true l.stride cs)).Has (newLoc ι m.size l) v v' := fun hv => hv.mono (fun _ hb => Mem.has_push _ hb) hat
  refine ⟨⟨⟨fun b ro s cs' hb => ?_, fun b b' _ hb' _ => absurd hb' (hnot b')⟩, hnot⟩, ⟨fun _ hb => Mem.has_push _ hb, hat, fun b x hb => by rw [Mem.get_push_old (Mem.get_lt hb)]; exact hb⟩⟩
  rcases Mem.get_push hb with ⟨hlt, hg⟩ | ⟨rfl, hx⟩
  · rw [hat b (Mem.get_has hg)]
    obtain ⟨C, e, fz, h1, h2, h3, h4, h5, h6⟩ := h.rel.at' b ro s cs' hg
    exact ⟨C, e, fz, h1, h2, h3, h4, fun i v hi => by
      obtain ⟨h7, v', h8, h9⟩ := h5 i v hi
      exact ⟨h7, v', h8, mono h9⟩, h6⟩
  · cases hx
    rw [newLoc_new]
    exact ⟨C, e, fz, hC, hs, rfl, hl, fun i v hi => by
      obtain ⟨h7, v', h8, h9⟩ := hv i v hi
      exact ⟨h7, v', h8, mono h9⟩, fun hf => by cases hf⟩
def tiles (P : Program) : Nat → List Field → Option Nat
  | o, [] => some o
  | o, f :: r => if f.offset = o then tiles P (o + P.cellsOf f.type) r else none
def liftable (P : Program) : Nat → TypeId → Bool
  | 0, _ => false
  | d + 1, t => match P.underlying t with
    | some .bool => true
    | some (.int _) => true
    | some .string => true
    | some (.slice e) => decide (0 < P.cellsOf e ∧ 0 < P.bytesOf e ∧ P.bytesOf e ≤ 67108864) && liftable P d e
    | some (.struct fs) => (tiles P 0 fs.toList == some (P.cellsOf t)) && fs.toList.all fun f => liftable P d f.type
    | some (.array n e) => (n * P.cellsOf e == P.cellsOf t) && liftable P d e
    | _ => false
section
variable {H : Type} {enc : TypeId × Value → H} {P : Program} {B : Nat} {w : World} {base : Nat}
def LiftOne (P : Program) (B : Nat) (w : World) (t : TypeId) (cs : List Value) : Prop := ∀ (ι : Nat → Loc) (m : Mem), Lifted ι m w → ∃ (κ : Nat → Loc) (m' : Mem) (cs' : List Value), Lifted κ m' w ∧ Lifts ι m κ m' ∧ ARep P m' B t cs' ∧ VRels m'.Has κ cs' cs ∧ ∀ v ∈ cs', v.oneCell' = true
theorem lift_many : ∀ (its : List (TypeId × List Value)), (∀ x ∈ its, LiftOne P B w x.1 x.2) → ∀ (ι : Nat → Loc) (m : Mem), Lifted ι m w → ∃ (κ : Nat → Loc) (m' : Mem) (css : List (List Value)), Lifted κ m' w ∧ Lifts ι m κ m' ∧ css.length = its.length ∧
    (∀ (i : Nat) (x : TypeId × List Value) (cs : List Value), its[i]? = some x → css[i]? = some cs → ARep P m' B x.1 cs ∧ cs.length = x.2.length) ∧ VRels m'.Has κ css.flatten (its.flatMap (·.2)) ∧ ∀ v ∈ css.flatten, v.oneCell' = true
  | [], _, ι, m, hl => ⟨ι, m, [], hl, Lifts.refl ι m, rfl, fun i x cs h => by simp at h, .nil, fun v hv => by simp at hv⟩
  | x :: r, h, ι, m, hl => by
    obtain ⟨κ, m1, cs, h1, h2, h3, h4, h5⟩ := h x (by simp) ι m hl
    obtain ⟨μ, m2, css, g1, g2, g3, g4, g5, g6⟩ := lift_many r (fun y hy => h y (by simp [hy])) κ m1 h1
    refine ⟨μ, m2, cs :: css, g1, h2.trans g2, by simp [g3], fun i y cs' hy hc => ?_, ?_, ?_⟩
    · cases i with
      | zero =>
        simp at hy hc; subst hy; subst hc
        exact ⟨h3.mono g2.has g2.get, h4.1⟩
      | succ i => exact g4 i y cs' (by simpa using hy) (by simpa using hc)
    · rw [List.flatten_cons, List.flatMap_cons]
      exact (g2.rels h4).append g5
    · intro v hv
      rw [List.flatten_cons, List.mem_append] at hv
      rcases hv with hv | hv
      · exact h5 v hv
      · exact g6 v hv
theorem flatten_at : ∀ (css : List (List Value)) (i : Nat) (cs : List Value), css[i]? = some cs → (css.flatten.drop (((css.take i).map List.length).sum)).take cs.length = cs
  | [], i, cs, h => by simp at h
  | x :: r, 0, cs, h => by simp at h; subst h; simp
  | x :: r, i + 1, cs, h => by
    have := flatten_at r i cs (by simpa using h)
    rw [List.flatten_cons, List.take_succ_cons, List.map_cons, List.sum_cons, List.drop_append, ]
    rw [List.drop_eq_nil_of_le (by omega), List.nil_append, Nat.add_sub_cancel_left]
    exact this
theorem tiles_at : ∀ (fs : List Field) (o n : Nat), tiles P o fs = some n → n = o + (fs.map fun f => P.cellsOf f.type).sum ∧ ∀ i f, fs[i]? = some f → f.offset = o + ((fs.take i).map fun f => P.cellsOf f.type).sum
  | [], o, n, h => by simp [tiles] at h; subst h; exact ⟨by simp, fun i f h => by simp at h⟩
  | g :: r, o, n, h => by
    unfold tiles at h
    split at h
    · rename_i hg
      obtain ⟨h1, h2⟩ := tiles_at r _ n h
      refine ⟨by rw [h1]; simp; omega, fun i f hf => ?_⟩
      cases i with
      | zero => simp at hf; subst hf; simp [hg]
      | succ i =>
        rw [h2 i f (by simpa using hf)]
        simp; omega
    · cases h
theorem sum_const : ∀ (l : List Nat) (n : Nat), (∀ x ∈ l, x = n) → l.sum = l.length * n
  | [], n, _ => by simp
  | x :: r, n, h => by
    rw [List.sum_cons, sum_const r n (fun y hy => h y (by simp [hy])), h x (by simp), List.length_cons, Nat.add_mul]
    omega
theorem flatMap_stretch : ∀ (k n : Nat) (cs : List Value), cs.length = k * n → ((List.range k).flatMap fun i => (cs.drop (i * n)).take n) = cs
  | 0, n, cs, h => by simp at h; simp [h]
  | k + 1, n, cs, h => by
    rw [List.range_succ, List.flatMap_append]
    have e : ((List.range k).flatMap fun i => (cs.drop (i * n)).take n) = ((List.range k).flatMap fun i => ((cs.take (k * n)).drop (i * n)).take n) := by
      rw [List.flatMap_def, List.flatMap_def]
      congr 1
      refine List.map_congr_left fun i hi => ?_
      have hi : i < k := by simpa using hi
      have : i * n + n ≤ k * n := by
        have := Nat.mul_le_mul_right n (show i + 1 ≤ k by omega)
        rw [Nat.add_mul] at this; omega
      rw [List.drop_take, List.take_take, Nat.min_eq_left (by omega)]
    rw [e, flatMap_stretch k n (cs.take (k * n)) (by rw [List.length_take, Nat.min_eq_left]; rw [h, Nat.add_mul]; omega)]
    rw [Nat.add_mul] at h
    simp only [List.flatMap_cons, List.flatMap_nil, List.append_nil]
    rw [List.take_of_length_le (l := cs.drop (k * n)) (by rw [List.length_drop]; omega), List.take_append_drop]
theorem tiles_stretch : ∀ (fs : List Field) (o n : Nat) (cs : List Value), tiles P o fs = some n → cs.length = n → (fs.flatMap fun f => (cs.drop f.offset).take (P.cellsOf f.type)) = cs.drop o
  | [], o, n, cs, h, hl => by
    simp [tiles] at h; subst h
    rw [List.drop_eq_nil_of_le (by omega)]; rfl
  | g :: r, o, n, cs, h, hl => by
    unfold tiles at h
    split at h
    · rename_i hg
      rw [List.flatMap_cons, tiles_stretch r _ n cs h hl, hg, ← List.drop_drop]
      exact List.take_append_drop _ _
    · cases h
theorem tiles_le : ∀ (fs : List Field) (o n : Nat), tiles P o fs = some n → o ≤ n
  | [], o, n, h => by simp [tiles] at h; omega
  | g :: r, o, n, h => by
    unfold tiles at h
    split at h
    · have := tiles_le r _ n h; omega
    · cases h
theorem tiles_len : ∀ (fs : List Field) (o n : Nat) (cs : List Value), tiles P o fs = some n → cs.length = n → ∀ f ∈ fs, ((cs.drop f.offset).take (P.cellsOf f.type)).length = P.cellsOf f.type
  | [], o, n, cs, h, hl, f, hf => by simp at hf
  | g :: r, o, n, cs, h, hl, f, hf => by
    unfold tiles at h
    split at h
    · rename_i hg
      have := tiles_le r _ n h
      rcases List.mem_cons.1 hf with rfl | hf
      · rw [List.length_take, List.length_drop, hg]; omega
      · exact tiles_len r _ n cs h hl f hf
    · cases h
theorem many_len (its : List (TypeId × List Value)) (css : List (List Value)) (h3 : css.length = its.length) {m : Mem}
    (h4 : ∀ (i : Nat) (x : TypeId × List Value) (cs : List Value), its[i]? = some x → css[i]? = some cs → ARep P m B x.1 cs ∧ cs.length = x.2.length) : css.map List.length = its.map fun x => x.2.length := by
  apply List.ext_getElem (by simp [h3])
  intro i h1 h2
  simp only [List.getElem_map]
  simp only [List.length_map] at h1 h2
  exact (h4 i _ _ (List.getElem?_eq_getElem h2) (List.getElem?_eq_getElem h1)).2
theorem lift_row (e : TypeId) (N len : Nat) (cs0 : List Value) (hl : cs0.length = len * N) (h : ∀ i, i < len → LiftOne P B w e ((cs0.drop (i * N)).take N)) (ι : Nat → Loc) (m : Mem) (hL : Lifted ι m w) :
    ∃ (κ : Nat → Loc) (m' : Mem) (cs' : List Value), Lifted κ m' w ∧ Lifts ι m κ m' ∧ cs'.length = len * N ∧ (∀ i, i < len → ARep P m' B e ((cs'.drop (i * N)).take N)) ∧ VRels m'.Has κ cs' cs0 ∧ ∀ v ∈ cs', v.oneCell' = true := by
  have hst : ∀ i, i < len → ((cs0.drop (i * N)).take N).length = N := by
    intro i hi
    have := Nat.mul_le_mul_right N (show i + 1 ≤ len by omega)
    rw [Nat.add_mul] at this
    rw [List.length_take, List.length_drop]; omega
  obtain ⟨κ, m', css, g1, g2, g3, g4, g5, g6⟩ := lift_many (P := P) (B := B) (w := w) ((List.range len).map fun i => (e, (cs0.drop (i * N)).take N)) (by
    intro x hx
    obtain ⟨i, hi, rfl⟩ := List.mem_map.1 hx
    exact h i (by simpa using hi)) ι m hL
  have hmap : ((List.range len).map fun i => (e, (cs0.drop (i * N)).take N)).flatMap (·.2) = cs0 := by
    rw [List.flatMap_map]
    exact flatMap_stretch len N cs0 hl
  rw [hmap] at g5
  have hml := many_len _ css g3 g4
  have hN : ∀ k, k ∈ css.map List.length → k = N := by
    intro k hk
    rw [hml, List.map_map] at hk
    obtain ⟨i, hi, rfl⟩ := List.mem_map.1 hk
    exact hst i (by simpa using hi)
  refine ⟨κ, m', css.flatten, g1, g2, by rw [g5.1, hl], fun i hi => ?_, g5, g6⟩
  have hi2 : i < css.length := by rw [g3]; simpa using hi
  have h7 := flatten_at css i _ (List.getElem?_eq_getElem hi2)
  rw [sum_const _ N (fun x hx => hN x (by rw [List.map_take] at hx; exact List.mem_of_mem_take hx)), List.length_map, List.length_take, Nat.min_eq_left (by omega), hN css[i].length (List.mem_map.2 ⟨_, List.getElem_mem _, rfl⟩)] at h7
  rw [h7]
  exact (g4 i (e, (cs0.drop (i * N)).take N) css[i] (by simp [hi]) (List.getElem?_eq_getElem hi2)).1
theorem lift_fields (t : TypeId) (fs : Array Field) (hu : P.underlying t = some (.struct fs)) (ht : tiles P 0 fs.toList = some (P.cellsOf t)) (cs0 : List Value) (hl : cs0.length = P.cellsOf t)
    (h : ∀ f ∈ fs.toList, LiftOne P B w f.type ((cs0.drop f.offset).take (P.cellsOf f.type))) : LiftOne P B w t cs0 := by
  intro ι m hL
  obtain ⟨κ, m', css, g1, g2, g3, g4, g5, g6⟩ := lift_many (P := P) (B := B) (w := w) (fs.toList.map fun f => (f.type, (cs0.drop f.offset).take (P.cellsOf f.type))) (by
    intro x hx
    obtain ⟨f, hf, rfl⟩ := List.mem_map.1 hx
    exact h f hf) ι m hL
  have hmap : (fs.toList.map fun f => (f.type, (cs0.drop f.offset).take (P.cellsOf f.type))).flatMap (·.2) = cs0 := by
    rw [List.flatMap_map]
    have := tiles_stretch fs.toList 0 _ cs0 ht hl
    rw [List.drop_zero] at this
    exact this
  rw [hmap] at g5
  have hml := many_len _ css g3 g4
  have hcf : css.map List.length = fs.toList.map fun f => P.cellsOf f.type := by
    rw [hml, List.map_map]
    exact List.map_congr_left fun f hf => tiles_len fs.toList 0 _ cs0 ht hl f hf
  refine ⟨κ, m', css.flatten, g1, g2, .struct hu _ (by rw [g5.1, hl]) fun f hf => ?_, g5, g6⟩
  obtain ⟨i, hi, hfi⟩ := List.getElem_of_mem hf
  have hi2 : i < css.length := by rw [g3]; simpa using hi
  have hoff := (tiles_at fs.toList 0 _ ht).2 i f (by rw [List.getElem?_eq_getElem hi, hfi])
  have h7 := flatten_at css i _ (List.getElem?_eq_getElem hi2)
  have hlen : css[i].length = P.cellsOf f.type := by
    have := (g4 i (f.type, (cs0.drop f.offset).take (P.cellsOf f.type)) css[i] (by rw [List.getElem?_map, List.getElem?_eq_getElem hi, hfi]; rfl) (List.getElem?_eq_getElem hi2)).2
    rw [this]
    exact tiles_len fs.toList 0 _ cs0 ht hl f hf
  rw [List.map_take, hcf, ← List.map_take, ← Nat.zero_add (List.sum _), ← hoff, hlen] at h7
  rw [h7]
  exact (g4 i (f.type, (cs0.drop f.offset).take (P.cellsOf f.type)) css[i] (by rw [List.getElem?_map, List.getElem?_eq_getElem hi, hfi]; rfl) (List.getElem?_eq_getElem hi2)).1
theorem lift_slice (t e : TypeId) (hu : P.underlying t = some (.slice e)) (hN : 0 < P.cellsOf e) (a : Addr) (len cap : Nat) (hlc : len ≤ cap) (hc : cap ≤ maxLen) (hB : cap ≤ B ∧ cap * P.bytesOf e ≤ reachBytes)
    (h : ∀ i, i < len → ∃ cs, w.cells? base (a.add (i * P.cellsOf e)) (P.cellsOf e) = some cs ∧ LiftOne P B w e cs) (hsp : 0 < cap → a.spot = none) : LiftOne P B w t [.slice (some a) len cap] := by
  intro ι m hL
  obtain ⟨b, off, sp⟩ := a
  by_cases h0 : len = 0
  · subst h0
    obtain ⟨g1, g2⟩ := hL.dead ⟨b, off, 0, 0⟩
    refine ⟨_, _, [.slice (some ⟨m.size, 0, none⟩) 0 cap], g1, g2, .empty hu _ _ (has_dead_new m) hc hB, .cons ?_ .nil, fun v hv => by simp at hv; subst hv; rfl⟩
    by_cases hc0 : cap = 0
    · subst hc0
      exact .empty _ _ _ (has_dead_new m)
    · have hsp := hsp (by omega)
      simp only at hsp
      subst hsp
      have := VRel.slice (n := (pushDead m).Has) (ι := newLoc ι m.size ⟨b, off, 0, 0⟩) m.size 0 0 cap cap (has_dead_new m) (Nat.zero_le _) (.inl rfl)
      rw [newLoc_new] at this
      exact this
  · obtain ⟨N, hNe⟩ : ∃ N, N = P.cellsOf e := ⟨_, rfl⟩
    rw [← hNe] at hN h
    have hsp := hsp (by omega)
    simp only at hsp
    subst hsp
    have hcell : ∀ i, i < len → ∃ cs, w.cells? base (⟨b, off + i * N, none⟩ : Addr) N = some cs ∧ LiftOne P B w e cs := by
      intro i hi
      have := h i hi
      rwa [Addr_add] at this
    obtain ⟨cs1, hc1, _⟩ := hcell 0 (by omega)
    obtain ⟨hl1, hg1⟩ := cells?_get hc1
    have hw0 := hg1 0 cs1[0] (List.getElem?_eq_getElem (by omega))
    rw [Addr_add] at hw0
    have hblk : ∃ C e fz, w.heap[b]? = some (.cells C e fz) := by
      unfold World.cell? at hw0
      simp only at hw0
      split at hw0
      · rename_i C e fz hC; exact ⟨C, e, fz, hC⟩
      · cases hw0
    obtain ⟨C, eC, fz, hC⟩ := hblk
    have hin : ∀ i, i < len → off + i * N + N ≤ C.size ∧ ∀ cs, w.cells? base (⟨b, off + i * N, none⟩ : Addr) N = some cs → cs = ((C.toList.drop off).drop (i * N)).take N := by
      intro i hi
      obtain ⟨cs, hcs, _⟩ := hcell i hi
      obtain ⟨hl, hg⟩ := cells?_get hcs
      have hge : ∀ j, j < N → C[off + i * N + j]? = cs[j]? := by
        intro j hj
        have := hg j cs[j] (List.getElem?_eq_getElem (by omega))
        rw [Addr_add, cell_of_block hC] at this
        rw [this, List.getElem?_eq_getElem]
      have hlast := hge (N - 1) (by omega)
      rw [List.getElem?_eq_getElem (by omega)] at hlast
      have hlt := (Array.getElem?_eq_some_iff.1 hlast).1
      refine ⟨by omega, fun cs' hcs' => ?_⟩
      rw [hcs] at hcs'
      cases hcs'
      apply List.ext_getElem?
      intro j
      by_cases hj : j < N
      · rw [← hge j hj, List.getElem?_take, if_pos hj, List.getElem?_drop, List.getElem?_drop, Array.getElem?_toList, Nat.add_assoc]
      · rw [List.getElem?_eq_none (by omega), List.getElem?_eq_none (by rw [List.length_take]; omega)]
    have hsz : off + len * N ≤ C.size := by
      have := (hin (len - 1) (by omega)).1
      rw [Nat.sub_mul, Nat.one_mul] at this
      have h2 : N ≤ len * N := Nat.le_mul_of_pos_left _ (by omega)
      omega
    have hl0 : ((C.toList.drop off).take (len * N)).length = len * N := by rw [List.length_take, List.length_drop, Array.length_toList]; omega
    obtain ⟨κ, m', cs', g1, g2, g3, g4, g5, g6⟩ := lift_row (P := P) (B := B) (w := w) e N len ((C.toList.drop off).take (len * N)) hl0 (by
      intro i hi
      obtain ⟨cs, hcs, hlo⟩ := hcell i hi
      have := (hin i hi).2 cs hcs
      have h2 := Nat.mul_le_mul_right N (show i + 1 ≤ len by omega)
      rw [Nat.add_mul] at h2
      rw [List.drop_take, List.take_take, Nat.min_eq_left (by omega), ← this]
      exact hlo) ι m hL
    have hlen : cs'.length = len * N := g3
    obtain ⟨k1, k2⟩ := g1.push ⟨b, off, C.size, N⟩ cs' C eC fz hC rfl (by simp only; omega) (by
      intro i v hi
      refine ⟨g6 v (List.mem_of_getElem? hi), ?_⟩
      obtain ⟨y, hy, hr⟩ := g5.get hi
      rw [List.getElem?_take] at hy
      split at hy
      · rw [List.getElem?_drop, Array.getElem?_toList] at hy; exact ⟨y, hy, hr⟩
      · cases hy)
    refine ⟨_, _, [.slice (some ⟨m'.size, 0, none⟩) len cap], k1, g2.trans k2, .slice hu _ _ _ cs' (by rw [← hNe]; exact Mem.get_push_new _ _) (by rw [← hNe]; exact hlen) hlc hc hB (fun i hi => ?_), .cons ?_ .nil, fun v hv => by simp at hv; subst hv; rfl⟩
    · rw [← hNe]
      exact (g4 i hi).mono k2.has k2.get
    · have := VRel.slice (n := (m'.push (.cells true N cs')).Has) (ι := newLoc κ m'.size ⟨b, off, C.size, N⟩) m'.size 0 len cap cap (Mem.has_push_new _ _) hlc (.inl rfl)
      rw [newLoc_new] at this
      exact this
structure Closed (P : Program) (B : Nat) (K : TypeId → DataW H → Prop) : Prop where
  str : ∀ t l, K t (.lit (.string l)) → l.length ≤ B
  slice : ∀ t e es sp, P.underlying t = some (.slice e) → 0 < P.bytesOf e → P.bytesOf e ≤ 67108864 → K t (.slice es sp) → (es.length + sp.length ≤ B ∧ (es.length + sp.length) * P.bytesOf e ≤ reachBytes) ∧ ∀ d ∈ es, K e d
  struct : ∀ t fs ps, P.underlying t = some (.struct fs) → K t (.agg ps) → ∀ (i : Nat) (f : Field) d, fs[i]? = some f → ps[i]? = some d → K f.type d
  array : ∀ t n e ps, P.underlying t = some (.array n e) → K t (.agg ps) → ∀ d ∈ ps, K e d
theorem lift_one {K : TypeId → DataW H → Prop} (hK : Closed P B K) : ∀ (fuel d : Nat) (t : TypeId) (cs : List Value) (x : DataW H × List MemPlace), liftable P d t = true → DataW.trod enc P w base (fun _ => true) true fuel t cs = some x → K t x.1 → LiftOne P B w t cs
  | 0, _, _, _, _, _, h, _ => by simp [DataW.trod] at h
  | fuel + 1, 0, _, _, _, hd, _, _ => by simp [liftable] at hd
  | fuel + 1, d + 1, t, cs, x, hd, h, hk => by
    intro ι m hL
    unfold liftable at hd
    have one : ∀ v, flat 3 v = true → v.oneCell' = true → ARep P m B t [v] → ∃ (κ : Nat → Loc) (m' : Mem) (cs' : List Value), Lifted κ m' w ∧ Lifts ι m κ m' ∧ ARep P m' B t cs' ∧ VRels m'.Has κ cs' [v] ∧ ∀ v ∈ cs', v.oneCell' = true := fun v hf h1 hr =>
      ⟨ι, m, [v], hL, Lifts.refl ι m, hr, .cons (flat_rel 3 v hf) .nil, fun u hu => by simp at hu; subst hu; exact h1⟩
    cases hu : P.underlying t with
    | none => simp [hu] at hd
    | some ty =>
      simp only [hu] at hd
      cases ty <;> simp only [Bool.false_eq_true] at hd
      case bool =>
        simp only [DataW.trod, hu] at h
        split at h <;> simp_all
        exact one _ rfl rfl (.bool hu _)
      case int k =>
        simp only [DataW.trod, hu] at h
        split at h <;> simp_all
        rename_i h0
        obtain ⟨⟨rfl, hw⟩, _⟩ := h
        cases h0
        exact one _ rfl rfl (.int hu _ hw)
      case string =>
        simp only [DataW.trod, hu] at h
        split at h <;> simp_all
        obtain ⟨_, rfl⟩ := h
        have := hK.str _ _ hk
        exact one _ rfl rfl (.string hu _ (by simpa using this))
      case slice e =>
        simp only [Bool.and_eq_true, decide_eq_true_eq] at hd
        simp only [DataW.trod, hu] at h
        match cs, h with
        | [.slice none 0 0], h => exact one _ rfl rfl (.nil hu)
        | [.slice (some a) len cap], h =>
          simp only at h
          split at h
          · rename_i hlc
            simp only [Option.bind_eq_some_iff, Option.map_eq_some_iff, if_true] at h
            obtain ⟨elems, h1, rest, h2, rfl⟩ := h
            obtain ⟨hkB, hke⟩ := hK.slice _ _ _ _ hu hd.1.2.1 hd.1.2.2 hk
            have hat : ∀ i y, K e y.1 → (w.cells? base (a.add (i * P.cellsOf e)) (P.cellsOf e)).bind (DataW.trod enc P w base (fun _ => true) true fuel e) = some y → ∃ cs, w.cells? base (a.add (i * P.cellsOf e)) (P.cellsOf e) = some cs ∧ LiftOne P B w e cs := by
              intro i y hky hy
              rw [Option.bind_eq_some_iff] at hy
              obtain ⟨cs, hcs, htr⟩ := hy
              exact ⟨cs, hcs, lift_one hK fuel d e cs y hd.2 htr hky⟩
            obtain ⟨l1, k1⟩ := mapM_get h1
            obtain ⟨l2, k2⟩ := mapM_get h2
            have hel : ∀ i, i < len → ∃ cs, w.cells? base (a.add (i * P.cellsOf e)) (P.cellsOf e) = some cs ∧ LiftOne P B w e cs := by
              intro i hi
              have := k1 i (by simpa using hi)
              rw [List.getElem_range, List.getElem?_eq_getElem (by rw [l1]; simpa using hi)] at this
              exact hat i _ (hke _ (List.mem_map.2 ⟨_, List.getElem_mem _, rfl⟩)) this
            refine lift_slice t e hu hd.1.1 a len cap hlc.2.1 hlc.2.2 (by
              have e1 : (elems.map (·.1)).length + (rest.map (·.1)).length = cap := by
                rw [List.length_map, List.length_map, l1, l2, List.length_range, List.length_range]; omega
              rw [e1] at hkB
              exact hkB) hel (fun hcap => ?_) ι m hL
            have : ∃ cs, w.cells? base (a.add (0 * P.cellsOf e)) (P.cellsOf e) = some cs := by
              by_cases h0 : 0 < len
              · obtain ⟨cs, hcs, _⟩ := hel 0 h0
                exact ⟨cs, hcs⟩
              · have := k2 0 (by simp; omega)
                rw [List.getElem_range, List.getElem?_eq_getElem (by rw [l2]; simp; omega)] at this
                rw [Option.bind_eq_some_iff] at this
                obtain ⟨cs, hcs, _⟩ := this
                have e0 : len + 0 = 0 := by omega
                rw [e0] at hcs
                exact ⟨cs, hcs⟩
            obtain ⟨cs, hcs⟩ := this
            obtain ⟨hl, hg⟩ := cells?_get hcs
            have := hg 0 cs[0] (List.getElem?_eq_getElem (by omega))
            have := World.cell?_spot this
            simpa [Addr.add] using this
          · cases h
      case struct fs =>
        simp only [Bool.and_eq_true, beq_iff_eq, List.all_eq_true] at hd
        simp only [DataW.trod, hu] at h
        split at h
        · rename_i hl
          simp only [Option.map_eq_some_iff] at h
          obtain ⟨xs, h1, rfl⟩ := h
          obtain ⟨l1, k1⟩ := mapM_get h1
          refine lift_fields t fs hu hd.1 cs hl (fun f hf => ?_) ι m hL
          obtain ⟨i, hi, rfl⟩ := List.getElem_of_mem hf
          have := k1 i hi
          rw [List.getElem?_eq_getElem (by rw [l1]; exact hi)] at this
          exact lift_one hK fuel d _ _ _ (hd.2 _ hf) this (hK.struct _ _ _ hu hk i _ _ (by rw [← Array.getElem?_toList, List.getElem?_eq_getElem hi]) (by rw [List.getElem?_map, List.getElem?_eq_getElem (by rw [l1]; exact hi)]; rfl))
        · cases h
      case array n e =>
        simp only [Bool.and_eq_true, beq_iff_eq] at hd
        simp only [DataW.trod, hu] at h
        split at h
        · rename_i hl
          simp only [Option.map_eq_some_iff] at h
          obtain ⟨xs, h1, rfl⟩ := h
          obtain ⟨l1, k1⟩ := mapM_get h1
          obtain ⟨κ, m', cs', g1, g2, g3, g4, g5, g6⟩ := lift_row (P := P) (B := B) (w := w) e (P.cellsOf e) n cs (by rw [hl, hd.1]) (fun i hi => by
            have := k1 i (by simpa using hi)
            rw [List.getElem_range, List.getElem?_eq_getElem (by rw [l1]; simpa using hi)] at this
            exact lift_one hK fuel d e _ _ hd.2 this (hK.array _ _ _ _ hu hk _ (List.mem_map.2 ⟨_, List.getElem_mem _, rfl⟩))) ι m hL
          exact ⟨κ, m', cs', g1, g2, .array hu cs' (by rw [g3, hd.1]) g4, g5, g6⟩
        · cases h
end
def ArgOf (P : Program) (m : Mem) (B : Nat) (t : TypeId) (v : Value) : Prop :=
  match P.underlying t with
  | some (.struct _) | some (.array _ _) => ∃ cs : List Value, v = .agg cs.toArray ∧ ARep P m B t cs
  | _ => ARep P m B t [v]
theorem ArgOf.mono {P : Program} {m m' : Mem} {B : Nat} {t : TypeId} {v : Value} (h : ArgOf P m B t v) (hh : ∀ b, m.Has b → m'.Has b) (hg : ∀ b x, m.get b = some x → m'.get b = some x) : ArgOf P m' B t v := by
  unfold ArgOf at h ⊢
  split <;> rename_i hu <;> simp only [hu] at h
  · obtain ⟨cs, e, h⟩ := h; exact ⟨cs, e, h.mono hh hg⟩
  · obtain ⟨cs, e, h⟩ := h; exact ⟨cs, e, h.mono hh hg⟩
  · exact h.mono hh hg
inductive ArgsOf (P : Program) (m : Mem) (B : Nat) : List TypeId → List Value → Prop
  | nil : ArgsOf P m B [] []
  | cons {t : TypeId} {v : Value} {ts : List TypeId} {vs : List Value} (h : ArgOf P m B t v) (hs : ArgsOf P m B ts vs) : ArgsOf P m B (t :: ts) (v :: vs)
theorem ArgsOf.mono {P : Program} {m m' : Mem} {B : Nat} {ts : List TypeId} {vs : List Value} (h : ArgsOf P m B ts vs) (hh : ∀ b, m.Has b → m'.Has b) (hg : ∀ b x, m.get b = some x → m'.get b = some x) : ArgsOf P m' B ts vs := by
  induction h with
  | nil => exact .nil
  | cons h _ ih => exact .cons (h.mono hh hg) ih
theorem lift_arg {H : Type} {enc : TypeId × Value → H} {P : Program} {B : Nat} {K : TypeId → DataW H → Prop} (hK : Closed P B K) {w : World} {base b2 : Nat} {t : TypeId} {v : Value} {d : DataW H} {ps : List MemPlace} (hl : liftable P 20 t = true) (hv : Value.okWide P w .any b2 t v)
    (h : DataW.Trod enc P w base (fun _ => true) true t v d ps) (hk : K t d) (ι : Nat → Loc) (m : Mem) (hL : Lifted ι m w) :
    ∃ (κ : Nat → Loc) (m' : Mem) (v' : Value), Lifted κ m' w ∧ Lifts ι m κ m' ∧ ArgOf P m' B t v' ∧ VRel m'.Has κ v' v := by
  obtain ⟨fuel, h⟩ := h
  obtain ⟨κ, m', cs', g1, g2, g3, g4, g5⟩ := lift_one (enc := enc) hK fuel 20 t _ _ hl h hk ι m hL
  have hrow : (∃ cs : Array Value, v = .agg cs) → ((∃ fs, P.underlying t = some (.struct fs)) ∨ (∃ n e, P.underlying t = some (.array n e))) → ∃ (κ : Nat → Loc) (m' : Mem) (v' : Value), Lifted κ m' w ∧ Lifts ι m κ m' ∧ ArgOf P m' B t v' ∧ VRel m'.Has κ v' v := by
    rintro ⟨cs, rfl⟩ ht
    refine ⟨κ, m', .agg cs'.toArray, g1, g2, ?_, VRel.aggs (by simpa [Value.cells] using g4)⟩
    unfold ArgOf
    rcases ht with ⟨fs, hu⟩ | ⟨n, e, hu⟩ <;> rw [hu] <;> exact ⟨cs', rfl, g3⟩
  have hone : v.cells.toList = [v] → (∀ fs, P.underlying t ≠ some (.struct fs)) → (∀ n e, P.underlying t ≠ some (.array n e)) → ∃ (κ : Nat → Loc) (m' : Mem) (v' : Value), Lifted κ m' w ∧ Lifts ι m κ m' ∧ ArgOf P m' B t v' ∧ VRel m'.Has κ v' v := by
    intro hc h1 h2
    rw [hc] at g4
    have hlen := g4.1
    match cs', hlen with
    | [u], _ =>
      refine ⟨κ, m', u, g1, g2, ?_, g4.2 0 u v rfl rfl⟩
      unfold ArgOf
      split
      · rename_i fs hu; exact absurd hu (h1 fs)
      · rename_i n e hu; exact absurd hu (h2 n e)
      · exact g3
  unfold liftable at hl
  unfold Value.okWide at hv
  cases hu : P.underlying t with
  | none => simp [hu] at hl
  | some ty =>
    simp only [hu] at hl hv
    cases ty <;> simp only [Bool.false_eq_true] at hl
    case bool =>
      refine hone ?_ (by simp [hu]) (by simp [hu])
      unfold Cell.okWide at hv
      simp only [hu] at hv
      unfold Cell.ok at hv
      simp only [hu] at hv
      cases v <;> simp_all [Value.cells]
    case int k =>
      refine hone ?_ (by simp [hu]) (by simp [hu])
      unfold Cell.okWide at hv
      simp only [hu] at hv
      unfold Cell.ok at hv
      simp only [hu] at hv
      cases v <;> simp_all [Value.cells]
    case string =>
      refine hone ?_ (by simp [hu]) (by simp [hu])
      unfold Cell.okWide at hv
      simp only [hu] at hv
      unfold Cell.ok at hv
      simp only [hu] at hv
      cases v <;> simp_all [Value.cells]
    case slice e =>
      refine hone ?_ (by simp [hu]) (by simp [hu])
      unfold Cell.okWide at hv
      simp only [hu] at hv
      unfold Cell.ok at hv
      simp only [hu] at hv
      cases v <;> simp_all [Value.cells]
    case struct fs =>
      obtain ⟨cs, rfl, _⟩ := hv
      exact hrow ⟨cs, rfl⟩ (.inl ⟨fs, hu⟩)
    case array n e =>
      obtain ⟨cs, rfl, _⟩ := hv
      exact hrow ⟨cs, rfl⟩ (.inr ⟨n, e, hu⟩)
theorem lift_args {H : Type} {enc : TypeId × Value → H} {P : Program} {B : Nat} {K : TypeId → DataW H → Prop} (hK : Closed P B K) {w : World} {base b2 : Nat} : ∀ (ts : List TypeId) (vs : List Value) (ds : List (DataW H)) (ps : List MemPlace), (∀ t ∈ ts, liftable P 20 t = true) →
    (∀ (j : Nat) t v, ts[j]? = some t → vs[j]? = some v → Value.okWide P w .any b2 t v) → DataW.TrodAll enc P w base (fun _ => true) true ts vs ds ps → (∀ (j : Nat) t d, ts[j]? = some t → ds[j]? = some d → K t d) → ∀ (ι : Nat → Loc) (m : Mem), Lifted ι m w →
    ∃ (κ : Nat → Loc) (m' : Mem) (vs' : List Value), Lifted κ m' w ∧ Lifts ι m κ m' ∧ ArgsOf P m' B ts vs' ∧ VRels m'.Has κ vs' vs
  | [], [], [], _, _, _, _, _, ι, m, hL => ⟨ι, m, [], hL, Lifts.refl ι m, .nil, .nil⟩
  | t :: ts, v :: vs, d :: ds, _, hl, hv, h, hk, ι, m, hL => by
    obtain ⟨p, q, h1, h2, rfl⟩ := h
    obtain ⟨κ, m1, vs', g1, g2, g3, g4⟩ := lift_args hK ts vs ds q (fun t ht => hl t (by simp [ht])) (fun j t' v' hj1 hj2 => hv (j + 1) t' v' (by simpa using hj1) (by simpa using hj2)) h2 (fun j t' d' hj1 hj2 => hk (j + 1) t' d' (by simpa using hj1) (by simpa using hj2)) ι m hL
    obtain ⟨μ, m2, v', k1, k2, k3, k4⟩ := lift_arg hK (hl t (by simp)) (hv 0 t v rfl rfl) h1 (hk 0 t d rfl rfl) κ m1 g1
    exact ⟨μ, m2, v' :: vs', k1, g2.trans k2, .cons k3 (g3.mono k2.has k2.get), .cons k4 (k2.rels g4)⟩
  | [], _ :: _, _, _, _, _, h, _, _, _, _ => by simp [DataW.TrodAll] at h
  | [], [], _ :: _, _, _, _, h, _, _, _, _ => by simp [DataW.TrodAll] at h
  | _ :: _, [], _, _, _, _, h, _, _, _, _ => by simp [DataW.TrodAll] at h
  | _ :: _, _ :: _, [], _, _, _, h, _, _, _, _ => by simp [DataW.TrodAll] at h
theorem Spec.calls {P : Program} {k : FuncId} {xs : List Value} {m : Mem} {v : Value} (hf : flat 3 v = true) (h : Spec P k xs m fun u _ => u = v) {ι : Nat → Loc} {w : World} (hL : Lifted ι m w) {ys : List Value} (hy : VRels m.Has ι xs ys) :
    Calls P k ys.toArray w fun e w' => e = .returned v ∧ Below w.heap.size w w' := by
  refine (h ι w ys hy hL.rel).mono ?_
  rintro e w' ⟨u, v', κ, m', rfl, rfl, hv, hr, hs⟩
  exact ⟨by rw [flat_eq 3 _ _ hf hv], hs.os, hs.tape, hs.output, hs.size, fun g hg => hs.block g hg fun b hb => absurd hb (hL.ro b)⟩
theorem closed_sized {H : Type} (P : Program) : Closed (H := H) P reachBytes fun t d => ∀ n ∈ d.weights P t, n ≤ reachBytes where
  str t l h := h _ (by simp [DataW.weights])
  slice t e es sp hu h1 h2 h := by
    simp only [DataW.weights, hu] at h
    have h3 := h _ (List.mem_cons_self)
    refine ⟨⟨Nat.le_trans (Nat.le_mul_of_pos_right _ h1) h3, h3⟩, fun d hd n hn => h n ?_⟩
    refine List.mem_cons_of_mem _ (List.mem_append_left _ ?_)
    clear h h3
    induction es with
    | nil => cases hd
    | cons x r ih =>
      rw [DataW.weightsAll, List.mem_append]
      rcases List.mem_cons.1 hd with rfl | hd
      · exact .inl hn
      · exact .inr (ih hd)
  struct t fs ps hu h i f d hf hd n hn := by
    simp only [DataW.weights, hu] at h
    exact h n (DataW.weights_mem_each (by rw [List.getElem?_map, Array.getElem?_toList, hf]; rfl) hd n hn)
  array t n e ps hu h d hd k hk := by
    simp only [DataW.weights, hu] at h
    refine h k ?_
    clear h
    induction ps with
    | nil => cases hd
    | cons x r ih =>
      rw [DataW.weightsAll, List.mem_append]
      rcases List.mem_cons.1 hd with rfl | hd
      · exact .inl hk
      · exact .inr (ih hd)
theorem walked_of_spec {P : Program} {n : FuncId} {f : Func} (ts : List TypeId) (hp : f.params.toList = ts) (hl : ∀ t ∈ ts, liftable P 20 t = true) (h : ∀ (m : Mem) (vs : List Value), (∀ b, ¬ m.Own b) → ArgsOf P m reachBytes ts vs → Spec P n vs m fun u _ => u = .bool true) :
    Walked P n f fun _ ds => ∀ x ∈ DataW.weightsEach P f.params.toList ds, x ≤ reachBytes := by
  intro H enc W base args ds ps hval hA hk
  rw [hp] at hA hk
  obtain ⟨κ, m, vs, g1, g2, g3, g4⟩ := lift_args (closed_sized P) (b2 := base) ts args.toList ds ps hl (fun j t v hj hv => hval j t v (by rw [← hp] at hj; simpa using hj) (by simpa using hv)) hA
    (fun j t d hj hd x hx => hk x (DataW.weights_mem_each hj hd x hx)) _ _ (Lifted.nil W)
  exact Spec.calls rfl (h m vs g1.ro g3) g1 g4
end Go.Proofs.YtpmgackgcefalaaGreat.Abs
namespace Go.Proofs.YtpmgackgcefalaaGreat
open Go.ChangeShapes Go.WideShapes Go.ChangeAt Go.RowKit
structure Header where
  id : Int
  salt : ByteArray
  n : Int
  bytes : Int
  raw : Int
  root : ByteArray
  tag : ByteArray
def Header.cells (h : Header) : List Value := [.int .i64 h.id, .string h.salt, .int .i64 h.n, .int .i64 h.bytes, .int .i64 h.raw, .string h.root, .string h.tag]
def Header.wf (h : Header) : Prop := h.salt.size ≤ maxLen ∧ h.root.size ≤ maxLen ∧ h.tag.size ≤ maxLen ∧ (Lit.int .i64 h.id).wf = true ∧ (Lit.int .i64 h.n).wf = true ∧ (Lit.int .i64 h.bytes).wf = true ∧ (Lit.int .i64 h.raw).wf = true
def headerS : Shape Header := { n := 7, rep := fun _ cs h => cs = h.cells ∧ h.wf, len := fun h => by rw [h.1]; rfl, mono := fun h _ => h }
theorem cellsInt : Tryz.prog.cellsOf 3 = 1 := by kernel_rfl
theorem cellsStr : Tryz.prog.cellsOf 9 = 1 := by kernel_rfl
end Go.Proofs.YtpmgackgcefalaaGreat
namespace Go.Proofs.YtpmgackgcefalaaGreat.Sha
abbrev Bytes := List UInt8
def M : Nat := 4294967296
def rotr (x n : Nat) : Nat := (x >>> n) ||| ((x <<< (32 - n)) % 4294967296)
def s0 (x : Nat) : Nat := (rotr x 7 ^^^ rotr x 18) ^^^ (x >>> 3)
def s1 (x : Nat) : Nat := (rotr x 17 ^^^ rotr x 19) ^^^ (x >>> 10)
def big0 (a : Nat) : Nat := (rotr a 2 ^^^ rotr a 13) ^^^ rotr a 22
def big1 (e : Nat) : Nat := (rotr e 6 ^^^ rotr e 11) ^^^ rotr e 25
def ch (e f g : Nat) : Nat := (e &&& f) ^^^ ((4294967295 - e) &&& g)
def maj (a b c : Nat) : Nat := ((a &&& b) ^^^ (a &&& c)) ^^^ (b &&& c)
structure W8 where
  a : Nat
  b : Nat
  c : Nat
  d : Nat
  e : Nat
  f : Nat
  g : Nat
  h : Nat
  deriving DecidableEq
def start : W8 := ⟨0x6a09e667, 0xbb67ae85, 0x3c6ef372, 0xa54ff53a, 0x510e527f, 0x9b05688c, 0x1f83d9ab, 0x5be0cd19⟩
def K : List Nat := [
  0x428a2f98, 0x71374491, 0xb5c0fbcf, 0xe9b5dba5, 0x3956c25b, 0x59f111f1, 0x923f82a4, 0xab1c5ed5, 0xd807aa98, 0x12835b01, 0x243185be, 0x550c7dc3, 0x72be5d74, 0x80deb1fe, 0x9bdc06a7, 0xc19bf174,
  0xe49b69c1, 0xefbe4786, 0x0fc19dc6, 0x240ca1cc, 0x2de92c6f, 0x4a7484aa, 0x5cb0a9dc, 0x76f988da, 0x983e5152, 0xa831c66d, 0xb00327c8, 0xbf597fc7, 0xc6e00bf3, 0xd5a79147, 0x06ca6351, 0x14292967,
  0x27b70a85, 0x2e1b2138, 0x4d2c6dfc, 0x53380d13, 0x650a7354, 0x766a0abb, 0x81c2c92e, 0x92722c85, 0xa2bfe8a1, 0xa81a664b, 0xc24b8b70, 0xc76c51a3, 0xd192e819, 0xd6990624, 0xf40e3585, 0x106aa070,
  0x19a4c116, 0x1e376c08, 0x2748774c, 0x34b0bcb5, 0x391c0cb3, 0x4ed8aa4a, 0x5b9cca4f, 0x682e6ff3, 0x748f82ee, 0x78a5636f, 0x84c87814, 0x8cc70208, 0x90befffa, 0xa4506ceb, 0xbef9a3f7, 0xc67178f2]
def turn (v : W8) (k w : Nat) : W8 :=
  let t1 := (v.h + big1 v.e + ch v.e v.f v.g + k + w) % 4294967296
  let t2 := (big0 v.a + maj v.a v.b v.c) % 4294967296
  ⟨(t1 + t2) % 4294967296, v.a, v.b, v.c, (v.d + t1) % 4294967296, v.e, v.f, v.g⟩
def beWord (b : Bytes) (i : Nat) : Nat := (b.getD (4 * i) 0).toNat * 16777216 + (b.getD (4 * i + 1) 0).toNat * 65536 + (b.getD (4 * i + 2) 0).toNat * 256 + (b.getD (4 * i + 3) 0).toNat
def nextW (w : List Nat) (t : Nat) : Nat := (w.getD (t - 16) 0 + s0 (w.getD (t - 15) 0) + w.getD (t - 7) 0 + s1 (w.getD (t - 2) 0)) % 4294967296
def sched (b : Bytes) : Nat → List Nat
  | 0 => []
  | t + 1 => let w := sched b t; w ++ [if t < 16 then beWord b t else nextW w t]
def rounds (h : W8) (w : List Nat) : Nat → W8
  | 0 => h
  | t + 1 => turn (rounds h w t) (K.getD t 0) (w.getD t 0)
def W8.plus (x y : W8) : W8 :=
  ⟨(x.a + y.a) % 4294967296, (x.b + y.b) % 4294967296, (x.c + y.c) % 4294967296, (x.d + y.d) % 4294967296, (x.e + y.e) % 4294967296, (x.f + y.f) % 4294967296, (x.g + y.g) % 4294967296, (x.h + y.h) % 4294967296⟩
def mix (h : W8) (b : Bytes) : W8 := h.plus (rounds h (sched b 64) 64)
def blocksN (h : W8) (l : Bytes) : Nat → W8
  | 0 => h
  | k + 1 => blocksN (mix h (l.take 64)) (l.drop 64) k
def blocks (h : W8) (l : Bytes) : W8 := blocksN h l (l.length / 64)
def rest (l : Bytes) : Bytes := l.drop (64 * (l.length / 64))
def zeros (n : Nat) : Nat := (56 + 64 - n % 64) % 64
def be8 (n : Nat) : Bytes := [UInt8.ofNat (n >>> 56), UInt8.ofNat (n >>> 48), UInt8.ofNat (n >>> 40), UInt8.ofNat (n >>> 32), UInt8.ofNat (n >>> 24), UInt8.ofNat (n >>> 16), UInt8.ofNat (n >>> 8), UInt8.ofNat n]
def tail (n : Nat) : Bytes := 0x80 :: (List.replicate (zeros (n + 1)) 0 ++ be8 (8 * n))
def be4 (n : Nat) : Bytes := [UInt8.ofNat (n >>> 24), UInt8.ofNat (n >>> 16), UInt8.ofNat (n >>> 8), UInt8.ofNat n]
def W8.bytes (v : W8) : Bytes := be4 v.a ++ be4 v.b ++ be4 v.c ++ be4 v.d ++ be4 v.e ++ be4 v.f ++ be4 v.g ++ be4 v.h
def sum (l : Bytes) : Bytes := (blocks start (l ++ tail l.length)).bytes
theorem sum_length (l : Bytes) : (sum l).length = 32 := by simp [sum, W8.bytes, be4]
theorem blocksN_append : ∀ (k : Nat) (h : W8) (l r : Bytes), 64 * k ≤ l.length → blocksN h (l ++ r) k = blocksN h l k
  | 0, _, _, _, _ => rfl
  | k + 1, h, l, r, hk => by
    simp only [blocksN]
    rw [List.take_append_of_le_length (by omega), List.drop_append_of_le_length (by omega)]
    exact blocksN_append k _ _ _ (by simp; omega)
theorem blocksN_add : ∀ (j k : Nat) (h : W8) (l : Bytes), blocksN h l (j + k) = blocksN (blocksN h l j) (l.drop (64 * j)) k
  | 0, k, h, l => by simp [blocksN]
  | j + 1, k, h, l => by
    rw [show j + 1 + k = (j + k) + 1 from by omega]
    simp only [blocksN]
    rw [blocksN_add j k, List.drop_drop]
    congr 2
    omega
theorem blocksN_succ (k : Nat) (h : W8) (l : Bytes) : blocksN h l (k + 1) = mix (blocksN h l k) ((l.drop (64 * k)).take 64) := by
  rw [blocksN_add]; rfl
theorem rest_length (l : Bytes) : (rest l).length = l.length % 64 := by simp [rest]; omega
theorem blocks_append (h : W8) (l r : Bytes) : blocks h (l ++ r) = blocks (blocks h l) (rest l ++ r) := by
  have e : (l ++ r).length / 64 = l.length / 64 + ((rest l ++ r).length) / 64 := by simp [rest_length]; omega
  unfold blocks
  rw [e, blocksN_add, blocksN_append _ _ _ _ (by omega)]
  congr 1
  rw [List.drop_append_of_le_length (by omega)]
  rfl
theorem rest_append (l r : Bytes) : rest (l ++ r) = rest (rest l ++ r) := by
  have e : (l ++ r).length / 64 = l.length / 64 + ((rest l ++ r).length) / 64 := by simp [rest_length]; omega
  show (l ++ r).drop (64 * ((l ++ r).length / 64)) = (rest l ++ r).drop (64 * ((rest l ++ r).length / 64))
  rw [e, Nat.mul_add, ← List.drop_drop, List.drop_append_of_le_length (by omega)]
  rfl
theorem sum_eq (l : Bytes) : sum l = (blocks (blocks start l) (rest l ++ tail l.length)).bytes := by rw [sum, blocks_append]
theorem sched_length (b : Bytes) : ∀ t, (sched b t).length = t
  | 0 => rfl
  | t + 1 => by simp [sched, sched_length b t]
theorem sched_take (b : Bytes) (t : Nat) : ∀ u, t ≤ u → (sched b u).take t = sched b t
  | 0, h => by
    have e : t = 0 := by omega
    rw [e]; rfl
  | u + 1, h => by
    by_cases e : t = u + 1
    · subst e; rw [List.take_of_length_le (by rw [sched_length]; omega)]
    · simp only [sched]
      rw [List.take_append_of_le_length (by rw [sched_length]; omega)]
      exact sched_take b t u (by omega)
theorem sched_getD (b : Bytes) (t u : Nat) (h : t < u) : (sched b u).getD t 0 = if t < 16 then beWord b t else nextW (sched b t) t := by
  have h1 := sched_take b (t + 1) u h
  have h2 : ((sched b u).take (t + 1)).getD t 0 = (sched b u).getD t 0 := by simp [List.getD, List.getElem?_take]
  rw [← h2, h1]
  simp [sched, List.getD, sched_length]
theorem or_lt {x y : Nat} (hx : x < 4294967296) (hy : y < 4294967296) : x ||| y < 4294967296 := Nat.or_lt_two_pow (n := 32) hx hy
theorem xor_lt {x y : Nat} (hx : x < 4294967296) (hy : y < 4294967296) : x ^^^ y < 4294967296 := Nat.xor_lt_two_pow (n := 32) hx hy
theorem and_lt {x y : Nat} (hx : x < 4294967296) : x &&& y < 4294967296 := Nat.lt_of_le_of_lt Nat.and_le_left hx
theorem shr_lt {x n : Nat} (hx : x < 4294967296) : x >>> n < 4294967296 := Nat.lt_of_le_of_lt (Nat.shiftRight_le _ _) hx
theorem rotr_lt {x n : Nat} (hx : x < 4294967296) : rotr x n < 4294967296 := or_lt (shr_lt hx) (Nat.mod_lt _ (by decide))
theorem s0_lt {x : Nat} (hx : x < 4294967296) : s0 x < 4294967296 := xor_lt (xor_lt (rotr_lt hx) (rotr_lt hx)) (shr_lt hx)
theorem s1_lt {x : Nat} (hx : x < 4294967296) : s1 x < 4294967296 := xor_lt (xor_lt (rotr_lt hx) (rotr_lt hx)) (shr_lt hx)
theorem big0_lt {x : Nat} (hx : x < 4294967296) : big0 x < 4294967296 := xor_lt (xor_lt (rotr_lt hx) (rotr_lt hx)) (rotr_lt hx)
theorem big1_lt {x : Nat} (hx : x < 4294967296) : big1 x < 4294967296 := xor_lt (xor_lt (rotr_lt hx) (rotr_lt hx)) (rotr_lt hx)
theorem ch_lt {x y z : Nat} (hx : x < 4294967296) : ch x y z < 4294967296 := xor_lt (and_lt hx) (and_lt (by omega))
theorem maj_lt {x y z : Nat} (hx : x < 4294967296) (hy : y < 4294967296) : maj x y z < 4294967296 := xor_lt (xor_lt (and_lt hx) (and_lt hx)) (and_lt hy)
theorem byte_lt (b : UInt8) : b.toNat < 256 := b.toNat_lt
theorem beWord_lt (b : Bytes) (i : Nat) : beWord b i < 4294967296 := by
  unfold beWord
  have := byte_lt (b.getD (4 * i) 0); have := byte_lt (b.getD (4 * i + 1) 0); have := byte_lt (b.getD (4 * i + 2) 0); have := byte_lt (b.getD (4 * i + 3) 0)
  omega
theorem nextW_lt (w : List Nat) (t : Nat) : nextW w t < 4294967296 := Nat.mod_lt _ (by decide)
theorem sched_lt (b : Bytes) (t u : Nat) : (sched b u).getD t 0 < 4294967296 := by
  by_cases h : t < u
  · rw [sched_getD b t u h]; split
    · exact beWord_lt _ _
    · exact nextW_lt _ _
  · rw [List.getD_eq_getElem?_getD, List.getElem?_eq_none (by rw [sched_length]; omega)]; decide
theorem K_lt (t : Nat) : K.getD t 0 < 4294967296 := by
  by_cases h : t < 64
  · have : ∀ t : Fin 64, K.getD t.val 0 < 4294967296 := by decide
    exact this ⟨t, h⟩
  · rw [List.getD_eq_getElem?_getD, List.getElem?_eq_none (by simp [K]; omega)]; decide
structure W8.Fit (v : W8) : Prop where
  a : v.a < 4294967296
  b : v.b < 4294967296
  c : v.c < 4294967296
  d : v.d < 4294967296
  e : v.e < 4294967296
  f : v.f < 4294967296
  g : v.g < 4294967296
  h : v.h < 4294967296
theorem start_fit : start.Fit := by constructor <;> decide
theorem turn_fit {v : W8} (h : v.Fit) (k w : Nat) : (turn v k w).Fit := ⟨Nat.mod_lt _ (by decide), h.a, h.b, h.c, Nat.mod_lt _ (by decide), h.e, h.f, h.g⟩
theorem rounds_fit {h : W8} (hf : h.Fit) (w : List Nat) : ∀ t, (rounds h w t).Fit
  | 0 => hf
  | t + 1 => turn_fit (rounds_fit hf w t) _ _
theorem plus_fit (x y : W8) : (x.plus y).Fit := by constructor <;> exact Nat.mod_lt _ (by decide)
theorem mix_fit (h : W8) (b : Bytes) : (mix h b).Fit := plus_fit _ _
theorem blocksN_fit : ∀ (k : Nat) {h : W8} (l : Bytes), h.Fit → (blocksN h l k).Fit
  | 0, _, _, hf => hf
  | k + 1, _, _, _ => blocksN_fit k _ (mix_fit _ _)
theorem blocks_fit {h : W8} (l : Bytes) (hf : h.Fit) : (blocks h l).Fit := blocksN_fit _ _ hf
example : sum [] = [0xe3, 0xb0, 0xc4, 0x42, 0x98, 0xfc, 0x1c, 0x14, 0x9a, 0xfb, 0xf4, 0xc8, 0x99, 0x6f, 0xb9, 0x24, 0x27, 0xae, 0x41, 0xe4, 0x64, 0x9b, 0x93, 0x4c, 0xa4, 0x95, 0x99, 0x1b, 0x78, 0x52, 0xb8, 0x55] := by decide +kernel
end Go.Proofs.YtpmgackgcefalaaGreat.Sha
