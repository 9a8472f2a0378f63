/-
  The abstract machine over small memories: code, walked with names given anew at each joint.
  The abstract machine over small memories: a contract over the blocks that a call reaches, used in any memory.
  The abstract machine over any memory and a few local blocks behind it; the local ones get new names at each joint.
  The abstract machine walked with unknowns: loops over some slots, memory that grows, facts of the program's types.
  Data that came in, read off the abstract memory; and slices there as the contracts of worlds want them.
  Walks over any memory with local blocks: what the steps come to.
  Walks in a memory that is written: no base that stays; what is known are blocks by number.
  Appends to local blocks.
-/
import Derived.Test.YtfdijpacbhomjaaGreatDoorMsnd08
import Derived.Test.YtfdijpacbhomjaaGreatDoorMsnd01
set_option linter.all false
namespace Go.Proofs.YtfdijpacbhomjaaGreatDoor.Abs
open Go Go.RowKit
def pos : List Nat → Nat → Option Nat
  | [], _ => none
  | x :: r, b => if b = x then some 0 else match pos r b with
    | some c => some (c + 1)
    | none => none
def nodupB : List Nat → Bool
  | [] => true
  | x :: r => r.all (fun y => !Nat.beq x y) && nodupB r
theorem nodupB_spec : ∀ {ks : List Nat}, nodupB ks = true → ∀ (i j b : Nat), ks[i]? = some b → ks[j]? = some b → i = j
  | [], _, i, j, b, h, _ => by simp at h
  | x :: r, hn, i, j, b, hi, hj => by
    simp only [nodupB, Bool.and_eq_true, List.all_eq_true, Bool.not_eq_true'] at hn
    have key : ∀ l : Nat, r[l]? = some x → False := fun l hl => by
      have := hn.1 x (List.mem_of_getElem? hl)
      rw [Nat.beq_refl] at this
      cases this
    cases i with
    | zero =>
      simp at hi; subst hi
      cases j with
      | zero => rfl
      | succ j => exact (key j (by simpa using hj)).elim
    | succ i =>
      cases j with
      | zero => simp at hj; subst hj; exact (key i (by simpa using hi)).elim
      | succ j => rw [nodupB_spec hn.2 i j b (by simpa using hi) (by simpa using hj)]
section
variable {P : Program} {n k : Nat} {f : AL} {m : Mem}
def AK (P : Program) (k : Nat) (c : Code) (Q : Exit → List Value → Mem → Prop) (a : List Value) (m : Mem) : Prop :=
  ∀ (ι₀ : Nat → Loc) (m₀ : Mem) (w₀ : World) (ι : Nat → Loc) (act : Act) (w : World), m₀.size ≤ k → Step ι₀ m₀ w₀ ι m w → ARel m.Has ι a act → Rel ι m w → c.wp P (Post ι₀ m₀ w₀ Q) act w
def CW (P : Program) (n k : Nat) [c : Box Code] [Q : Box (Exit → AL → Mem → Prop)] (f : AL) (m : Mem) : Prop :=
  ∀ a, Knows n f a → AK P k c.k (fun e a' m' => ∃ f', Knows n f' a' ∧ Q.k e f' m') a m
variable {Q : Exit → AL → Mem → Prop}
def cThen [next : Box (AL → Mem → Prop)] [Q : Box (Exit → AL → Mem → Prop)] : Exit → AL → Mem → Prop
  | .normal, f, m => next.k f m
  | e, f, m => Q.k e f m
def cBlock (i : Nat) [Q : Box (Exit → AL → Mem → Prop)] : Exit → AL → Mem → Prop
  | .exit j, f, m => if j = i then Q.k .normal f m else Q.k (.exit j) f m
  | e, f, m => Q.k e f m
theorem CW.of_SW {c : Code} (h : SW P n c Q f m) : @CW P n k ⟨c⟩ ⟨Q⟩ f m := fun a ha ι₀ m₀ w₀ ι act w _ => h a ha ι₀ m₀ w₀ ι act w
theorem CW_skip (h : Q .normal f m) : @CW P n k ⟨.skip⟩ ⟨Q⟩ f m := .of_SW (SW_skip h)
theorem CW_exit {i : Nat} (h : Q (.exit i) f m) : @CW P n k ⟨.exit i⟩ ⟨Q⟩ f m := .of_SW (SW_exit h)
theorem CW_ret (h : Q .ret f m) : @CW P n k ⟨.ret⟩ ⟨Q⟩ f m := .of_SW (SW_ret h)
theorem CW_region {id : Nat} {ops : Array Oper} (h : @sOpsB P n ops.toList ⟨Q .normal⟩ ops.toList f m) : @CW P n k ⟨.region id ops false⟩ ⟨Q⟩ f m := .of_SW (SW_region h)
theorem CW_draw {id : Nat} {ops : Array Oper} (hmix : P.follows .mixedOrders = true) (q : Nat) (hq : drawOK ops q = true) (hqs : Nat.ble q ops.size = true)
    (h : @sHeadB P n ops.toList m ⟨fun f' M => @sOpsB P n ops.toList ⟨Q .normal⟩ (ops.toList.drop q) f' M⟩ (ops.toList.take q) false f m) : @CW P n k ⟨.region id ops true⟩ ⟨Q⟩ f m := .of_SW (SW_draw hmix q hq hqs h)
def sQB (P : Program) (n : Nat) (all : List Oper) (m : Mem) (J : List Nat) [K : Box (AL → Mem → Prop)] : List Oper → AL → Mem → Prop
  | [], _, _ => False
  | oq :: r, f', M => @withV _ (sMem P (AL.look f') M oq.op) ⟨fun p => idleOK P all f' m p.2 J ∧ @sPut n oq.dst p.1 f' ⟨fun f'' => @sOpsB P n all K r f'' p.2⟩⟩
theorem CW_draw4 {id : Nat} {ops : Array Oper} (hmix : P.follows .mixedOrders = true) (q : Nat) (J : List Nat) (hq : drawOK4 P ops q J = true)
    (h : @sHeadB P n ops.toList m ⟨fun f' M => @sQB P n ops.toList m J ⟨Q .normal⟩ (ops.toList.drop q) f' M⟩ (ops.toList.take q) false f m) : @CW P n k ⟨.region id ops true⟩ ⟨Q⟩ f m := by
  have hqs : q < ops.toList.length := by
    have := hq
    simp only [drawOK4, Bool.and_eq_true] at this
    have := Nat.le_of_ble_eq_true this.1.1.2
    rw [Array.length_toList]
    omega
  rw [List.drop_eq_getElem_cons hqs] at h
  exact .of_SW (SW_draw4 hmix q J hq (oq := ops.toList[q]) (by rw [← Array.getElem?_toList]; exact List.getElem?_eq_getElem hqs) h)
def sQB6 (P : Program) (n : Nat) (all : List Oper) (m : Mem) (J : List Nat) [K : Box (AL → Mem → Prop)] : List Oper → AL → Mem → Prop
  | [], _, _ => False
  | oq :: r, f', M => @withV _ (sCallee (AL.look f') oq.op) ⟨fun p => entered P p.1 = true ∧ ∃ R, Spec P p.1 p.2 M R ∧ @Later ⟨∀ u M', R u M' → idleOK P all f' m M' J ∧ @sPut n oq.dst u f' ⟨fun f'' => @sOpsB P n all K r f'' M'⟩⟩⟩
theorem SW_draw6L [Defs] {P : Program} {n : Nat} {Q : Exit → AL → Mem → Prop} {f : AL} {m : Mem} {id : Nat} {ops : Array Oper} (hmix : P.follows .mixedOrders = true) (q : Nat) (J : List Nat) (hq : drawOK4 P ops q J = true)
    (h : @sHeadB P n ops.toList m ⟨fun f' M => @sQB6 P n ops.toList m J ⟨Q .normal⟩ (ops.toList.drop q) f' M⟩ (ops.toList.take q) false f m) : SW P n (.region id ops true) Q f m := by
  have hqs : q < ops.toList.length := by
    have := hq
    simp only [drawOK4, Bool.and_eq_true] at this
    have := Nat.le_of_ble_eq_true this.1.1.2
    rw [Array.length_toList]
    omega
  rw [List.drop_eq_getElem_cons hqs] at h
  exact SW_draw6 hmix q J hq (oq := ops.toList[q]) (by rw [← Array.getElem?_toList]; exact List.getElem?_eq_getElem hqs) h
theorem CW.mono {c : Code} {Q' : Exit → AL → Mem → Prop} (h : @CW P n k ⟨c⟩ ⟨Q⟩ f m) (hq : ∀ e f m, Q e f m → Q' e f m) : @CW P n k ⟨c⟩ ⟨Q'⟩ f m :=
  fun a ha ι₀ m₀ w₀ ι act w h0 hs hA hr => wp_mono (h a ha ι₀ m₀ w₀ ι act w h0 hs hA hr) fun _ _ _ ⟨κ, a', m', ⟨f', h1, h2⟩, h3⟩ => ⟨κ, a', m', ⟨f', h1, hq _ _ _ h2⟩, h3⟩
theorem CW_seq {x y : Code} (h : @CW P n k ⟨x⟩ ⟨@cThen ⟨@CW P n k ⟨y⟩ ⟨Q⟩⟩ ⟨Q⟩⟩ f m) : @CW P n k ⟨.seq x y⟩ ⟨Q⟩ f m := by
  intro a ha ι₀ m₀ w₀ ι act w h0 hs hA hr
  refine wp_seq (wp_mono (h a ha ι₀ m₀ w₀ ι act w h0 hs hA hr) ?_)
  rintro e act' w' ⟨κ, a', m', ⟨f', h1, h2⟩, h3, h4, h5⟩
  cases e with
  | normal => exact h2 a' h1 ι₀ m₀ w₀ κ act' w' h0 h5 h3 h4
  | _ => exact ⟨κ, a', m', ⟨f', h1, h2⟩, h3, h4, h5⟩
theorem CW_cond {c : Operand} {x y : Code} (t : Bool) (hc : AL.look f c = some (.bool t)) (ht : t = true → @CW P n k ⟨x⟩ ⟨Q⟩ f m) (hf : t = false → @CW P n k ⟨y⟩ ⟨Q⟩ f m) : @CW P n k ⟨.cond c x y⟩ ⟨Q⟩ f m := by
  intro a ha ι₀ m₀ w₀ ι act w h0 hs hA hr
  have he := aEval_rel hA (ha.look c _ hc)
  generalize hv : act.eval c = v at he
  cases he
  exact wp_cond_split hv (fun h => ht h a ha ι₀ m₀ w₀ ι act w h0 hs hA hr) (fun h => hf h a ha ι₀ m₀ w₀ ι act w h0 hs hA hr)
theorem CW_block {i : Nat} {c : Code} (h : @CW P n k ⟨c⟩ ⟨@cBlock i ⟨Q⟩⟩ f m) : @CW P n k ⟨.block i c⟩ ⟨Q⟩ f m := by
  intro a ha ι₀ m₀ w₀ ι act w h0 hs hA hr
  refine wp_block (wp_mono (h a ha ι₀ m₀ w₀ ι act w h0 hs hA hr) ?_)
  rintro e act' w' ⟨κ, a', m', ⟨f', h1, h2⟩, h3, h4, h5⟩
  cases e with
  | exit j =>
    simp only [cBlock] at h2
    simp only [Exit.inBlock]
    split
    · rename_i e; rw [if_pos e] at h2; exact ⟨κ, a', m', ⟨f', h1, h2⟩, h3, h4, h5⟩
    · rename_i e; rw [if_neg e] at h2; exact ⟨κ, a', m', ⟨f', h1, h2⟩, h3, h4, h5⟩
  | _ => exact ⟨κ, a', m', ⟨f', h1, h2⟩, h3, h4, h5⟩
end
end Go.Proofs.YtfdijpacbhomjaaGreatDoor.Abs
namespace Go.Proofs.YtfdijpacbhomjaaGreatDoor.Abs
open Go Go.RowKit
def ext (b : Mem) (l : List (Option (Option Blk))) : Mem := ⟨b.blks ++ l⟩
def Within (m : Mem) : Prop := ∀ b x, m.get b = some x → ClBlk m.Has x
section
variable {P : Program} {n k₀ : Nat} {f f' : AL} {b : Mem} {l : List (Option (Option Blk))}
variable {Q : Exit → AL → Mem → Prop}
theorem Rel.within {m : Mem} {ι : Nat → Loc} {w : World} (h : Rel ι m w) : Within m := h.clBlk
end
end Go.Proofs.YtfdijpacbhomjaaGreatDoor.Abs
namespace Go.Proofs.YtfdijpacbhomjaaGreatDoor.Abs
open Go Go.RowKit
theorem hmix : Tryz.prog.follows .mixedOrders = true := by kernel_rfl
theorem inf_int : Tryz.prog.info? 3 = some Tryz.t3 := by kernel_rfl
theorem inf_str : Tryz.prog.info? 9 = some Tryz.t9 := by kernel_rfl
theorem int_size : Tryz.t3.size = 1 := rfl
theorem int_zero : Tryz.t3.zero = some (.int .i64 0) := rfl
theorem str_size : Tryz.t9.size = 1 := rfl
theorem new_one {P : Program} {t e : TypeId} {i : TypeInfo} {z : Value} (hu : P.underlying t = some (.slice e)) (hi : P.info? e = some i) (hz : i.zero = some z) (hs : i.size = 1) (hf : flat 3 z = true) (hzc : z.cells.toList = [z]) (hz1 : oneAll [z] = true)
    (v : Value) (hv : v.cells.toList = [v]) (h1 : oneAll [v] = true) : nBuildSlice P t 1 [(0, v)] = some (.cells false 1 [v]) := by
  unfold nBuildSlice
  simp only [hu, hi, hz, hs, hf, hzc, hz1, hv, h1]
  simp [aFill, aZeros, hv, setL, h1]
theorem wr {x : Int} (h0 : 0 ≤ x) (h1 : x ≤ 4611686018427387904) : IntKind.i64.wrap x = x := by
  obtain ⟨n, rfl⟩ := Int.eq_ofNat_of_zero_le h0
  exact (idx (n : Int) n rfl (by omega)).1
theorem aStr_neq (a b : ByteArray) : aStr .neq a b = some (.bool (!beqB a b)) := rfl
theorem aInt_add (k : IntKind) (a b : Int) : aInt .add k a b = some (.int k (k.wrap (a + b))) := rfl
theorem aInt_sub (k : IntKind) (a b : Int) : aInt .sub k a b = some (.int k (k.wrap (a - b))) := rfl
theorem aInt_quo (k : IntKind) (a b : Int) : aInt .quo k a b = if b = 0 then none else some (.int k (k.wrap (a.tdiv b))) := rfl
theorem aInt_rem (k : IntKind) (a b : Int) : aInt .rem k a b = if b = 0 then none else some (.int k (a.tmod b)) := rfl
theorem aInt_and (k : IntKind) (a b : Int) : aInt .and k a b = some (.int k (bits .and k a b)) := rfl
theorem aInt_or (k : IntKind) (a b : Int) : aInt .or k a b = some (.int k (bits .or k a b)) := rfl
theorem aInt_eql (k : IntKind) (a b : Int) : aInt .eql k a b = some (.bool (a == b)) := rfl
theorem aInt_neq (k : IntKind) (a b : Int) : aInt .neq k a b = some (.bool (a != b)) := rfl
theorem aInt_lss (k : IntKind) (a b : Int) : aInt .lss k a b = some (.bool (decide (a < b))) := rfl
theorem aInt_gtr (k : IntKind) (a b : Int) : aInt .gtr k a b = some (.bool (decide (a > b))) := rfl
theorem aInt_geq (k : IntKind) (a b : Int) : aInt .geq k a b = some (.bool (decide (a ≥ b))) := rfl
theorem new_int (x : Int) : nBuildSlice Tryz.prog 50 1 [(0, .int .i64 x)] = some (.cells false 1 [.int .i64 x]) :=
  new_one Tryz.underlying50 inf_int int_zero int_size rfl rfl rfl _ rfl rfl
def zS := And.intro (And.intro (And.intro (And.intro (And.intro (And.intro @alOf.eq_1 (And.intro @alOf.eq_2 @sOps.eq_1)) (And.intro (And.intro @sOpsB.eq_1 @sOpsB.eq_2) (And.intro @sOp.eq_1 @sOne.eq_1))) (And.intro (And.intro @sHOne.eq_1 (And.intro @sHOp.eq_1 @sGuard.eq_1)) (And.intro (And.intro @sWant.eq_1 @sFun.eq_1) (And.intro @sGuarded.eq_1 @sGuarded.eq_2)))) (And.intro (And.intro (And.intro @isFn.eq_1 (And.intro @isFn.eq_3 @kind.eq_1)) (And.intro (And.intro @kind.eq_2 @kind.eq_3) (And.intro @kind.eq_4 @kind.eq_8))) (And.intro (And.intro @kind.eq_9 (And.intro @kind.eq_10 @kind.eq_11)) (And.intro (And.intro @kind.eq_12 @kindB.eq_1) (And.intro @kindB.eq_2 @kindB.eq_4))))) (And.intro (And.intro (And.intro (And.intro @kindC.eq_1 (And.intro @kindC.eq_2 @kindT.eq_2)) (And.intro (And.intro @withV_some @withV_ite) (And.intro @sVal.eq_1 @sVal.eq_2))) (And.intro (And.intro @sVal.eq_3 (And.intro @sVal.eq_4 @sVal.eq_5)) (And.intro (And.intro @sVal.eq_6 @sVal.eq_7) (And.intro @sVal.eq_8 @sVal.eq_9)))) (And.intro (And.intro (And.intro @sVal.eq_11 (And.intro @sVal.eq_13 @sVal.eq_15)) (And.intro (And.intro @sVal.eq_16 @sVal.eq_17) (And.intro @sVal.eq_18 @sVal.eq_20))) (And.intro (And.intro (And.intro @sNew.eq_1 @sNew.eq_2) (And.intro @sNew.eq_3 @sMem.eq_1)) (And.intro (And.intro @sMem.eq_3 @sMem.eq_5) (And.intro @sAny.eq_1 @sEntry.eq_1)))))) (And.intro (And.intro (And.intro (And.intro (And.intro @sArgs.eq_1 (And.intro @sArgs.eq_2 @sParts.eq_1)) (And.intro (And.intro @sParts.eq_2 @sBin.eq_1) (And.intro @sConv.eq_1 @vPick.eq_1))) (And.intro (And.intro @vPick.eq_2 (And.intro @vLoad.eq_1 @vIndexAddr.eq_1)) (And.intro (And.intro @vIndex.eq_1 @vExtract.eq_1) (And.intro @vUn.eq_1 @sCallee.eq_1)))) (And.intro (And.intro (And.intro @AL.look.eq_1 (And.intro @AL.look.eq_2 @AL.look.eq_3)) (And.intro (And.intro @AL.get.eq_1 @AL.get.eq_2) (And.intro @flat.eq_1 @flat.eq_2))) (And.intro (And.intro @flat.eq_5 (And.intro @flat.eq_6 @flat.eq_7)) (And.intro (And.intro @sPut.eq_1 @sPut.eq_2) (And.intro @isC.eq_1 @isC.eq_2))))) (And.intro (And.intro (And.intro (And.intro @sThen.eq_1 (And.intro @sHeadB.eq_1 @sHeadB.eq_2)) (And.intro (And.intro @List.take_succ_cons.{0} @List.take_zero.{0}) (And.intro @List.drop_succ_cons.{0} @List.drop_zero.{0}))) (And.intro (And.intro @aBin.eq_3 (And.intro @aInt_add @aInt_sub)) (And.intro (And.intro @aInt_quo @aInt_rem) (And.intro @aInt_and @aInt_or)))) (And.intro (And.intro (And.intro @aInt_eql (And.intro @aInt_neq @aInt_lss)) (And.intro (And.intro @aInt_gtr @aInt_geq) (And.intro @aStr_neq @Bool.false_eq_true))) (And.intro (And.intro (And.intro @Bool.or_true @Bool.or_false) (And.intro @if_true.{1} @if_false.{1})) (And.intro (And.intro @true_and @and_true) (And.intro @List.nil_append.{0} @List.append_nil.{0}))))))
end Go.Proofs.YtfdijpacbhomjaaGreatDoor.Abs
namespace Go.Proofs.YtfdijpacbhomjaaGreatDoor.Abs
open Go Go.RowKit
section
variable {P : Program} {m : Mem} {B : Nat} {t : TypeId} {cs : List Value}
theorem ARep.inv_int {k : IntKind} (hu : P.underlying t = some (.int k)) (h : ARep P m B t cs) : ∃ n, cs = [.int k n] ∧ (Lit.int k n).wf = true := by
  cases h <;> simp_all
theorem ARep.inv_string (hu : P.underlying t = some .string) (h : ARep P m B t cs) : ∃ s, cs = [.string s] ∧ s.size ≤ B := by
  cases h <;> simp_all
theorem ARep.inv_struct {fs : Array Field} (hu : P.underlying t = some (.struct fs)) (h : ARep P m B t cs) : cs.length = P.cellsOf t ∧ ∀ (i : Nat) (f : Field), fs[i]? = some f → ARep P m B f.type ((cs.drop f.offset).take (P.cellsOf f.type)) := by
  have : cs.length = P.cellsOf t ∧ ∀ f ∈ fs.toList, ARep P m B f.type ((cs.drop f.offset).take (P.cellsOf f.type)) := by cases h <;> simp_all
  exact ⟨this.1, fun i f hf => this.2 f (Array.mem_toList_iff.2 (Array.mem_of_getElem? hf))⟩
def Rd (m : Mem) (n : Nat) (v : Value) (k : Nat) (cells : List Value) : Prop :=
  ∃ a cap, v = .slice a k cap ∧ cells.length = k * n ∧ k ≤ cap ∧ cap ≤ maxLen ∧ (a = none → cap = 0) ∧ ∀ p, a = some p → ∃ b, p = ⟨b, 0, none⟩ ∧ (k ≠ 0 → ∃ ro, m.get b = some (.cells ro n cells))
theorem ARep.inv_slice {e : TypeId} (hu : P.underlying t = some (.slice e)) (h : ARep P m B t cs) : ∃ v k cells, cs = [v] ∧ Rd m (P.cellsOf e) v k cells ∧ (k ≤ B ∧ k * P.bytesOf e ≤ reachBytes) ∧ ∀ i, i < k → ARep P m B e ((cells.drop (i * P.cellsOf e)).take (P.cellsOf e)) := by
  cases h with
  | nil h => exact ⟨_, 0, [], rfl, ⟨none, 0, rfl, by simp, Nat.le_refl _, Nat.zero_le _, fun _ => rfl, fun p hp => by cases hp⟩, ⟨Nat.zero_le _, by simp⟩, fun i hi => by omega⟩
  | empty h b cap hb hc hB => exact ⟨_, 0, [], rfl, ⟨_, cap, rfl, by simp, Nat.zero_le _, hc, (fun hp => by cases hp), fun p hp => by cases hp; exact ⟨b, rfl, fun h => absurd rfl h⟩⟩, ⟨Nat.zero_le _, by simp⟩, fun i hi => by omega⟩
  | @slice _ e' h b len cap all hb hl hlc hc hB hx =>
    rw [h] at hu
    cases hu
    exact ⟨_, len, all, rfl, ⟨_, cap, rfl, hl, hlc, hc, (fun hp => by cases hp), fun p hp => by cases hp; exact ⟨b, rfl, fun _ => ⟨true, hb⟩⟩⟩, ⟨Nat.le_trans hlc hB.1, Nat.le_trans (Nat.mul_le_mul_right _ hlc) hB.2⟩, hx⟩
  | struct h => rw [h] at hu; cases hu
  | array h => rw [h] at hu; cases hu
  | _ h => rw [h] at hu; cases hu
theorem list_of_stretches {α : Type} (f : α → List Value) (wf : α → Prop) (n : Nat) : ∀ (k : Nat) (cells : List Value), cells.length = k * n → (∀ i, i < k → ∃ x, (cells.drop (i * n)).take n = f x ∧ wf x) → ∃ xs : List α, xs.length = k ∧ cells = xs.flatMap f ∧ ∀ x ∈ xs, wf x
  | 0, cells, h, _ => ⟨[], rfl, by simpa using h, fun x hx => by simp at hx⟩
  | k + 1, cells, h, hx => by
    rw [Nat.add_mul, Nat.one_mul] at h
    obtain ⟨x, h1, h2⟩ := hx 0 (by omega)
    obtain ⟨xs, g1, g2, g3⟩ := list_of_stretches f wf n k (cells.drop n) (by rw [List.length_drop]; omega) (by
      intro i hi
      obtain ⟨y, k1, k2⟩ := hx (i + 1) (by omega)
      refine ⟨y, ?_, k2⟩
      rw [← k1, List.drop_drop, Nat.add_mul, Nat.one_mul, Nat.add_comm])
    refine ⟨x :: xs, by simp [g1], ?_, fun y hy => ?_⟩
    · rw [List.flatMap_cons, ← g2, ← h1, Nat.zero_mul, List.drop_zero, List.take_append_drop]
    · rcases List.mem_cons.1 hy with rfl | hy
      · exact h2
      · exact g3 y hy
theorem ARep.list {α : Type} (f : α → List Value) (wf : α → Prop) {e : TypeId} {n : Nat} (hu : P.underlying t = some (.slice e)) (hn : P.cellsOf e = n) (he : ∀ cs, ARep P m B e cs → ∃ x, cs = f x ∧ wf x) (h : ARep P m B t cs) :
    ∃ v xs, cs = [v] ∧ Rd m n v (List.length xs) (xs.flatMap f) ∧ (xs.length ≤ B ∧ xs.length * P.bytesOf e ≤ reachBytes) ∧ ∀ x ∈ xs, wf x := by
  subst hn
  obtain ⟨v, k, cells, rfl, hr, hB, hx⟩ := h.inv_slice hu
  have hl : cells.length = k * P.cellsOf e := by obtain ⟨_, _, _, h, _⟩ := hr; exact h
  obtain ⟨xs, rfl, rfl, h3⟩ := list_of_stretches f wf _ k cells hl fun i hi => he _ (hx i hi)
  exact ⟨v, xs, rfl, hr, hB, h3⟩
end
theorem Rd.at {m : Mem} {n k cap : Nat} {a : Option Addr} {cells : List Value} (h : Rd m n (.slice a k cap) k cells) (hk : 0 < k) : ∃ b ro, a = some ⟨b, 0, none⟩ ∧ m.get b = some (.cells ro n cells) := by
  obtain ⟨a', cap', e, _, h2, _, h3, h4⟩ := h
  cases e
  cases a with
  | none => have := h3 rfl; omega
  | some p =>
    obtain ⟨b, rfl, hb⟩ := h4 p rfl
    obtain ⟨ro, hg⟩ := hb (by omega)
    exact ⟨b, ro, rfl, hg⟩
theorem flatMap_at {α : Type} (f : α → List Value) (n : Nat) : ∀ (xs : List α) (i : Nat) (x : α), (∀ x ∈ xs, (f x).length = n) → xs[i]? = some x → ((xs.flatMap f).drop (i * n)).take n = f x
  | [], i, x, _, h => by simp at h
  | y :: r, 0, x, hl, h => by
    simp at h; subst h
    rw [Nat.zero_mul, List.drop_zero, List.flatMap_cons, ← hl y (by simp), List.take_left']
    rfl
  | y :: r, i + 1, x, hl, h => by
    have := flatMap_at f n r i x (fun x hx => hl x (by simp [hx])) (by simpa using h)
    rw [List.flatMap_cons, Nat.add_mul, Nat.one_mul, List.drop_append, List.drop_eq_nil_of_le (by rw [hl y (by simp)]; omega), List.nil_append, hl y (by simp), Nat.add_sub_cancel]
    exact this
theorem flatMap_len {α : Type} (f : α → List Value) (n : Nat) : ∀ (xs : List α), (∀ x ∈ xs, (f x).length = n) → (xs.flatMap f).length = xs.length * n
  | [], _ => by simp
  | y :: r, hl => by
    rw [List.flatMap_cons, List.length_append, flatMap_len f n r (fun x hx => hl x (by simp [hx])), hl y (by simp), List.length_cons, Nat.add_mul]
    omega
theorem Rd.sliceOf {α : Type} {S : Shape α} (f : α → List Value) {ι : Nat → Loc} {m : Mem} {w : World} (hr : Rel ι m w) {xs : List α} {v v' : Value} (hd : Rd m S.n v xs.length (xs.flatMap f)) (hv : VRel m.Has ι v v')
    (hS : ∀ x ∈ xs, S.rep w (f x) x) (hf : ∀ x ∈ xs, ∀ c ∈ f x, flat 3 c = true) : SliceOf S w v' xs := by
  have hlen : ∀ x ∈ xs, (f x).length = S.n := fun x hx => S.len (hS x hx)
  obtain ⟨a, cap, rfl, h1, h2, h3, h4, h5⟩ := hd
  cases a with
  | none =>
    have h0 := h4 rfl
    subst h0
    have hx : xs = [] := List.eq_nil_of_length_eq_zero (by omega)
    subst hx
    cases hv
    exact SliceOf.nil S w
  | some p =>
    obtain ⟨b, rfl, hc⟩ := h5 p rfl
    by_cases h0 : xs = []
    · subst h0
      generalize hk : ([] : List α).length = k at hv
      cases hv with
      | slice _ _ _ _ cap' hlt hl hcc => exact ⟨_, cap', by rw [hk], .inl ⟨rfl, by rcases hcc with hcc | hcc <;> omega, fun h => by cases h⟩⟩
      | empty _ _ p hlt => exact ⟨_, 0, rfl, .inl ⟨rfl, Nat.zero_le _, fun h => by cases h⟩⟩
    · have hpos : 0 < xs.length := List.length_pos_iff.2 h0
      obtain ⟨ro, hg⟩ := hc (by omega)
      obtain ⟨C, e, fz, g1, g2, g3, g4, g5, g6⟩ := hr.at' _ _ _ _ hg
      generalize hk : xs.length = k at hv
      cases hv with
      | empty _ _ p hlt => omega
      | slice _ _ _ _ cap' hlt hl hcc =>
        refine ⟨_, cap', by rw [hk], .inr ⟨(ι b).blk, (ι b).base + 0, rfl, lt_of_heap g1, by rcases hcc with hcc | hcc <;> omega, by rcases hcc with hcc | hcc <;> omega, fun i x hx => ⟨f x, hS x (List.mem_of_getElem? hx), fun j c hj => ?_⟩⟩⟩
        have hfa := flatMap_at f S.n xs i x hlen hx
        have hj0 : j < S.n := by rw [← hlen x (List.mem_of_getElem? hx)]; exact (List.getElem?_eq_some_iff.1 hj).1
        have hc : (xs.flatMap f)[i * S.n + j]? = some c := by
          rw [← hfa, List.getElem?_take, if_pos hj0, List.getElem?_drop] at hj
          exact hj
        obtain ⟨_, v', h8, h9⟩ := g5 _ c hc
        have hfl := hf x (List.mem_of_getElem? hx) c (List.mem_of_getElem? hj)
        rw [← flat_eq 3 c v' hfl h9] at h8
        rw [cell_of_block g1, ← h8]
        congr 1
        omega
theorem vrels_two {n : Nat → Prop} {ι : Nat → Loc} {a b : Value} {ys : List Value} (h : VRels n ι [a, b] ys) : ∃ a' b', ys = [a', b'] ∧ VRel n ι a a' ∧ VRel n ι b b' := by
  have hl := h.1
  match ys, hl with
  | [a', b'], _ => exact ⟨a', b', rfl, h.2 0 _ _ rfl rfl, h.2 1 _ _ rfl rfl⟩
theorem map_flat {α β : Type} (f : α → β) : ∀ l : List α, l.map f = l.flatMap fun x => [f x]
  | [] => rfl
  | x :: r => by rw [List.map_cons, List.flatMap_cons, map_flat f r]; rfl
theorem Rd.strs {ι : Nat → Loc} {m : Mem} {w : World} (hr : Rel ι m w) {xs : List ByteArray} {v v' : Value} (hd : Rd m 1 v xs.length (xs.map .string)) (hv : VRel m.Has ι v v') : SliceOf strS w v' xs := by
  rw [map_flat] at hd
  exact Rd.sliceOf (S := strS) (fun s => [.string s]) hr hd hv (fun _ _ => rfl) fun x _ c hc => by simp at hc; subst hc; rfl
theorem args_one {P : Program} {m : Mem} {B : Nat} {t : TypeId} {ts : List TypeId} {vs : List Value} (h : ArgsOf P m B (t :: ts) vs) : ∃ v r, vs = v :: r ∧ ArgOf P m B t v ∧ ArgsOf P m B ts r := by
  cases h with
  | cons h hs => exact ⟨_, _, rfl, h, hs⟩
theorem args_nil {P : Program} {m : Mem} {B : Nat} {vs : List Value} (h : ArgsOf P m B [] vs) : vs = [] := by cases h; rfl
theorem arg_list {P : Program} {m : Mem} {B : Nat} {t e : TypeId} {v : Value} (hu : P.underlying t = some (.slice e)) (h : ArgOf P m B t v) : ARep P m B t [v] := by
  unfold ArgOf at h
  rw [hu] at h
  exact h
end Go.Proofs.YtfdijpacbhomjaaGreatDoor.Abs
namespace Go.Proofs.YtfdijpacbhomjaaGreatDoor.Abs
open Go Go.RowKit
def rowIn (n o : Nat) : Option Blk → Option Value
  | some (.cells _ _ cs) => if o + n ≤ cs.length then some (.agg ((cs.drop o).take n).toArray) else none
  | _ => none
def cellIn (o : Nat) : Option Blk → Option Value
  | some (.cells _ _ cs) => cs[o]?
  | _ => none
def putIn (n : Nat) (m : Mem) (b o : Nat) (vs : List Value) : Option Blk → Option Mem
  | some (.cells false s cs) => if vs.length = n ∧ o + vs.length ≤ cs.length ∧ oneAll vs = true then some (m.set b (some (.cells false s (setL cs o vs)))) else none
  | _ => none
section
variable {P : Program} {t : TypeId} {d : TypeDesc} {i : TypeInfo} {n : Nat}
theorem ld_row (hu : P.underlying t = some d) (hd : d.isRow = true) (hi : P.info? t = some i) (hs : i.size = n) (get : Nat → Option Blk) (b o : Nat) : gLoad P get t (.pointer (some ⟨b, o, none⟩)) = rowIn n o (get b) := by
  subst hs
  cases hb : get b with
  | none => simp only [gLoad, hb, rowIn]
  | some x => cases x <;> simp only [gLoad, hb, rowIn, hu, hd, if_true, hi]
theorem ld_cell (hu : P.underlying t = some d) (hd : d.isRow = false) (get : Nat → Option Blk) (b o : Nat) : gLoad P get t (.pointer (some ⟨b, o, none⟩)) = cellIn o (get b) := by
  cases hb : get b with
  | none => simp only [gLoad, hb, cellIn]
  | some x => cases x <;> simp only [gLoad, hb, cellIn, hu, hd, Bool.false_eq_true, if_false]
theorem st_any (hi : P.info? t = some i) (hs : i.size = n) (m : Mem) (b o : Nat) (v : Value) : aStore P m t (.pointer (some ⟨b, o, none⟩)) v = putIn n m b o v.cells.toList (m.get b) := by
  subst hs
  cases hb : m.get b with
  | none => simp only [aStore, hb, putIn]
  | some x => rcases x with ⟨ro, s, cs⟩ | ⟨ro, es, c⟩ | ⟨ro, d, s, l, k⟩ | ⟨ro, C, e, lo, hi9⟩ <;> cases ro <;> simp only [aStore, hb, putIn, hi]
end
theorem aLoad_g (P : Program) (m : Mem) (t : TypeId) (p : Value) : aLoad P m t p = gLoad P m.get t p := by
  unfold aLoad gLoad
  rfl
theorem g_tt : ((some true : Option Bool) == some true) = true := rfl
theorem g_tf : ((some true : Option Bool) == some false) = false := rfl
theorem g_ft : ((some false : Option Bool) == some true) = false := rfl
theorem g_ff : ((some false : Option Bool) == some false) = true := rfl
theorem aUn_not (b : Bool) : aUn .not (.bool b) = some (.bool !b) := rfl
theorem agg_cells (xs : Array Value) : (Value.agg xs).cells.toList = xs.toList := rfl
theorem row_struct (fs : Array Field) : (TypeDesc.struct fs).isRow = true := rfl
theorem row_array (k : Nat) (e : TypeId) : (TypeDesc.array k e).isRow = true := rfl
theorem nBox_row {P : Program} (t : TypeId) {xs : Array Value} (h : oneAll xs.toList = true) : nBox P t (.agg xs) = some (.cells false (aStride P t) xs.toList) := by
  unfold nBox
  rw [agg_cells, if_pos h]
def zZ := And.intro (And.intro (And.intro (And.intro (And.intro (And.intro (And.intro @alOf.eq_1 @alOf.eq_2) (And.intro @sOps.eq_1 @sOpsB.eq_1)) (And.intro (And.intro @sOpsB.eq_2 @sOp.eq_1) (And.intro @sOne.eq_1 (And.intro @sHOne.eq_1 @sHOp.eq_1)))) (And.intro (And.intro (And.intro @sGuard.eq_1 @sWant.eq_1) (And.intro @sFun.eq_1 (And.intro @sGuarded.eq_1 @sGuarded.eq_2))) (And.intro (And.intro @isFn.eq_1 @isFn.eq_3) (And.intro @kind.eq_1 (And.intro @kind.eq_2 @kind.eq_3))))) (And.intro (And.intro (And.intro (And.intro @kind.eq_4 @kind.eq_8) (And.intro @kind.eq_9 (And.intro @kind.eq_10 @kind.eq_11))) (And.intro (And.intro @kind.eq_12 @kindB.eq_1) (And.intro @kindB.eq_2 (And.intro @kindB.eq_4 @kindC.eq_1)))) (And.intro (And.intro (And.intro @kindC.eq_2 @kindT.eq_2) (And.intro @withV_some (And.intro @withV_ite @sVal.eq_1))) (And.intro (And.intro @sVal.eq_2 @sVal.eq_3) (And.intro @sVal.eq_4 (And.intro @sVal.eq_5 @sVal.eq_6)))))) (And.intro (And.intro (And.intro (And.intro (And.intro @sVal.eq_7 @sVal.eq_8) (And.intro @sVal.eq_9 (And.intro @sVal.eq_11 @sVal.eq_13))) (And.intro (And.intro @sVal.eq_15 @sVal.eq_16) (And.intro @sVal.eq_17 (And.intro @sVal.eq_18 @sVal.eq_20)))) (And.intro (And.intro (And.intro @sNew.eq_1 @sNew.eq_2) (And.intro @sNew.eq_3 (And.intro @sMem.eq_1 @sMem.eq_3))) (And.intro (And.intro @sMem.eq_5 @sAny.eq_1) (And.intro @sEntry.eq_1 (And.intro @sArgs.eq_1 @sArgs.eq_2))))) (And.intro (And.intro (And.intro (And.intro @sParts.eq_1 @sParts.eq_2) (And.intro @sBin.eq_1 (And.intro @sConv.eq_1 @vPick.eq_1))) (And.intro (And.intro @vPick.eq_2 @vLoad.eq_1) (And.intro @vIndexAddr.eq_1 (And.intro @vIndex.eq_1 @vExtract.eq_1)))) (And.intro (And.intro (And.intro @vUn.eq_1 @aUn_not) (And.intro @Bool.not_true (And.intro @Bool.not_false @sCallee.eq_1))) (And.intro (And.intro @AL.look.eq_1 @AL.look.eq_2) (And.intro @AL.look.eq_3 (And.intro @AL.get.eq_1 @AL.get.eq_2))))))) (And.intro (And.intro (And.intro (And.intro (And.intro (And.intro @flat.eq_1 @flat.eq_2) (And.intro @flat.eq_5 @flat.eq_6)) (And.intro (And.intro @flat.eq_7 @sPut.eq_1) (And.intro @sPut.eq_2 (And.intro @isC.eq_1 @isC.eq_2)))) (And.intro (And.intro (And.intro @sThen.eq_1 @cThen.eq_1) (And.intro @cThen.eq_2 (And.intro @cBlock.eq_1 @cBlock.eq_2))) (And.intro (And.intro @sHeadB.eq_1 @sHeadB.eq_2) (And.intro @List.take_succ_cons.{0} (And.intro @List.take_zero.{0} @List.drop_succ_cons.{0}))))) (And.intro (And.intro (And.intro (And.intro @List.drop_zero.{0} @aBin_ii) (And.intro @aBin_ss (And.intro @aBinI.eq_1 @aBinI.eq_2))) (And.intro (And.intro @aBinI.eq_3 @aInt_add) (And.intro @aInt_sub (And.intro @aInt_quo @aInt_rem)))) (And.intro (And.intro (And.intro @aInt_and @aInt_or) (And.intro @aInt_eql (And.intro @aInt_neq @aInt_lss))) (And.intro (And.intro @aInt_gtr @aInt_geq) (And.intro @aStr_neq (And.intro @Bool.false_eq_true @Bool.or_true)))))) (And.intro (And.intro (And.intro (And.intro (And.intro @Bool.or_false @if_true.{1}) (And.intro @if_false.{1} (And.intro @true_and @and_true))) (And.intro (And.intro @List.nil_append.{0} @List.append_nil.{0}) (And.intro Tryz.underlying3 (And.intro Tryz.underlying50 @inf_int)))) (And.intro (And.intro (And.intro @inf_str @int_size) (And.intro @Abs.str_size (And.intro @aIndexAddr.eq_1 @aIndexAddr.eq_2))) (And.intro (And.intro @Nat.mul_one @Nat.zero_add) (And.intro @aLen.eq_2 (And.intro @aLen.eq_3 @vCall.eq_1))))) (And.intro (And.intro (And.intro (And.intro @vBuiltin.eq_1 @vBuiltin.eq_2) (And.intro @vBuiltin.eq_3 (And.intro @vLen.eq_1 @new_int))) (And.intro (And.intro @Int.toNat_natCast @vFieldAddr.eq_1) (And.intro @vBuild.eq_1 (And.intro @vNil.eq_1 @vNil.eq_3)))) (And.intro (And.intro (And.intro @List.length_cons.{0} @List.cons_append.{0}) (And.intro @cellIn.eq_1 (And.intro @Region.wanted.eq_1 @g_tt))) (And.intro (And.intro @g_tf @g_ft) (And.intro @g_ff (And.intro @List.getElem?_cons_succ.{0} @List.getElem?_cons_zero.{0})))))))
end Go.Proofs.YtfdijpacbhomjaaGreatDoor.Abs
namespace Go.Proofs.YtfdijpacbhomjaaGreatDoor.Abs
open Go
structure Thin (m m' : Mem) : Prop where
  has : ∀ b, m.Has b → m'.Has b
  get : ∀ b ro s cs, m'.get b = some (.cells ro s cs) → ∃ r, m.get b = some (.cells r s cs) ∧ (r = true → ro = true)
  oth : ∀ b x, m'.get b = some x → (∃ ro s cs, x = .cells ro s cs) ∨ m.get b = some x
theorem Thin.refl (m : Mem) : Thin m m := ⟨fun _ h => h, fun b ro s cs h => ⟨ro, h, fun h => h⟩, fun _ _ h => .inr h⟩
theorem Thin.own {m m' : Mem} (h : Thin m m') {b : Nat} (hb : m'.Own b) : m.Own b := by
  obtain ⟨x, hb, hx⟩ := hb
  rcases h.oth b x hb with ⟨ro, s, cs, rfl⟩ | h1
  · have hro : ro = false := by simpa [Blk.own] using hx
    subst hro
    obtain ⟨r, h1, h2⟩ := h.get b false s cs hb
    cases r with
    | false => exact .of h1
    | true => cases h2 rfl
  · exact ⟨x, h1, hx⟩
theorem Thin.live {m m' : Mem} (h : Thin m m') {b : Nat} (hb : m'.get b ≠ none) : m.get b ≠ none := by
  cases hx : m'.get b with
  | none => exact absurd hx hb
  | some x =>
    rcases h.oth b x hx with ⟨ro, s, cs, rfl⟩ | h1
    · obtain ⟨r, h1, _⟩ := h.get b ro s cs hx
      rw [h1]; simp
    · rw [h1]; simp
theorem Rel.thin {ι : Nat → Loc} {m m' : Mem} {w : World} (h : Rel ι m w) (k : Thin m m') : Rel ι m' w := by
  refine ⟨fun b ro s cs hb => ?_, fun b x hb => ?_, fun b b' hb hb' hne => h.inj b b' (k.live hb) (k.own hb') hne, ⟨h.glob.known, fun b hb => h.glob.own b (k.own hb)⟩⟩
  rotate_left
  · rcases k.oth b x hb with ⟨ro, s, cs, rfl⟩ | h1
    · trivial
    · exact (h.oth b x h1).mono k.has fun _ _ => rfl
  obtain ⟨r, h1, h2⟩ := k.get b ro s cs hb
  obtain ⟨C, e, fz, g1, g2, g3, g4, g5, g6⟩ := h.at' b r s cs h1
  refine ⟨C, e, fz, g1, g2, g3, g4, fun i v hi => ?_, fun hro => g6 ?_⟩
  · obtain ⟨g7, v', g8, g9⟩ := g5 i v hi
    exact ⟨g7, v', g8, g9.mono k.has fun _ _ => rfl⟩
  · cases r with
    | false => rfl
    | true => rw [h2 rfl] at hro; cases hro
theorem Step.thin {ι₀ ι : Nat → Loc} {m₀ m m' : Mem} {w₀ w : World} (h : Step ι₀ m₀ w₀ ι m w) (k : Thin m m') : Step ι₀ m₀ w₀ ι m' w :=
  ⟨h.os, h.tape, h.output, h.size, fun b hb => k.has b (h.grows b hb), h.at_, h.block, fun b hb => h.own b (k.own hb)⟩
theorem Spec.thin {P : Program} {f : FuncId} {xs : List Value} {m : Mem} {R R' : Value → Mem → Prop} (h : Spec P f xs m R) (hr : ∀ v M, R v M → ∃ M', Thin M M' ∧ R' v M') : Spec P f xs m R' := by
  intro ι w ys hy hw
  refine (h ι w ys hy hw).mono ?_
  rintro e w' ⟨v, v', κ, M, h1, h2, h3, h4, h5⟩
  obtain ⟨M', k1, k2⟩ := hr v M h1
  exact ⟨v, v', κ, M', k2, h2, h3.mono k1.has fun _ _ => rfl, h4.thin k1, h5.thin k1⟩
def keepF (f : AL) : List Nat → Option AL
  | [] => some []
  | t :: r => match AL.get f t with
    | none => none
    | some v => match keepF f r with
      | none => none
      | some q => some ((t, v) :: q)
theorem keepF_get {f : AL} : ∀ {ts : List Nat} {q : AL}, keepF f ts = some q → ∀ (t : Nat) (v : Value), AL.get q t = some v → AL.get f t = some v
  | [], q, h, t, v, hv => by simp only [keepF, Option.some.injEq] at h; subst h; simp [AL.get] at hv
  | u :: r, q, h, t, v, hv => by
    simp only [keepF] at h
    split at h <;> first | (cases h; done) | skip
    rename_i x hx
    split at h <;> first | (cases h; done) | skip
    rename_i q' hq'
    cases h
    simp only [AL.get] at hv
    split at hv
    · rename_i e; subst e; cases hv; exact hx
    · exact keepF_get hq' t v hv
theorem Knows.keepF {n : Nat} {f f' : AL} {a : List Value} {ts : List Nat} (h : Knows n f a) (hk : keepF f ts = some f') : Knows n f' a := ⟨h.1, fun t v hv => h.2 t v (keepF_get hk t v hv)⟩
def JoinM (f : AL) (m : Mem) [J : Box (AL → Mem → Prop)] : Prop := ∃ slots, @withV _ (keepF f slots) ⟨fun f' => ∃ m', Thin m m' ∧ J.k f' m'⟩
section
variable {P : Program} {n k : Nat} {f : AL} {m : Mem} {Q : Exit → AL → Mem → Prop}
theorem MW_loop {c : Code} (I : Nat → AL → Mem → Prop) (j₀ : Nat) (h₀ : @JoinM f m ⟨I j₀⟩)
    (round : ∀ j f m, I j f m → @CW P n k ⟨c⟩ ⟨@cThen ⟨fun f' m' => @JoinM f' m' ⟨fun f2 m2 => ∃ j', I j' f2 m2 ∧ j' < j⟩⟩ ⟨Q⟩⟩ f m) : @CW P n k ⟨.loop c⟩ ⟨Q⟩ f m := by
  intro a ha ι₀ m₀ w₀ ι act w h0 hs hA hr
  have run : ∀ j f m, I j f m → ∀ (a : List Value) (ι : Nat → Loc) (act : Act) (w : World), Knows n f a → Step ι₀ m₀ w₀ ι m w → ARel m.Has ι a act → Rel ι m w →
      Code.rounds P c (Post ι₀ m₀ w₀ fun e a' m' => ∃ f', Knows n f' a' ∧ Q e f' m') (j + 1) act w := by
    intro j
    induction j using Nat.strongRecOn with
    | _ j ih =>
      intro f m hI a ι act w ha hs hA hr
      refine wp_mono (round j f m hI a ha ι₀ m₀ w₀ ι act w h0 hs hA hr) ?_
      rintro e act2 w2 ⟨κ, a2, m2, ⟨f2, hf2, hq2⟩, ha2, hr2, hs2⟩
      cases e with
      | normal =>
        obtain ⟨slots, hq2⟩ := hq2
        obtain ⟨f3, hf3, m3, ht, j', hI', hlt⟩ := withV_spec hq2
        exact SW_loop.rounds_le (ih j' hlt f3 m3 hI' a2 κ act2 w2 (hf2.keepF hf3) (hs2.thin ht) (ha2.mono ht.has fun _ _ => rfl) (hr2.thin ht)) (by omega)
      | _ => exact ⟨κ, a2, m2, ⟨f2, hf2, hq2⟩, ha2, hr2, hs2⟩
  obtain ⟨slots, hq2⟩ := h₀
  obtain ⟨f3, hf3, m3, ht, hI'⟩ := withV_spec hq2
  exact wp_loop_rounds (j₀ + 1) (run j₀ f3 m3 hI' a ι act w (ha.keepF hf3) (hs.thin ht) (hA.mono ht.has fun _ _ => rfl) (hr.thin ht))
theorem MW_mid {x y : Code} (I : AL → Mem → Prop) (h : @CW P n k ⟨x⟩ ⟨@cThen ⟨fun f' m' => @JoinM f' m' ⟨I⟩⟩ ⟨Q⟩⟩ f m) (hy : ∀ f m, I f m → @CW P n k ⟨y⟩ ⟨Q⟩ f m) : @CW P n k ⟨.seq x y⟩ ⟨Q⟩ f m := by
  refine CW_seq (h.mono ?_)
  intro e f' m' hq
  cases e with
  | normal =>
    obtain ⟨slots, hq⟩ := hq
    obtain ⟨f3, hf3, m3, ht, hI⟩ := withV_spec hq
    intro a ha ι₀ m₀ w₀ ι act w h0 hs hA hr
    exact hy f3 m3 hI a (ha.keepF hf3) ι₀ m₀ w₀ ι act w h0 (hs.thin ht) (hA.mono ht.has fun _ _ => rfl) (hr.thin ht)
  | _ => exact hq
def mEnd (P : Program) (rs : List ResultVar) (R : Value → Mem → Prop) : Exit → AL → Mem → Prop
  | .ret, f, m => @withV _ (sAnswer P rs f m) ⟨fun v => ∃ m', Thin m m' ∧ R v m'⟩
  | .normal, f, m => @withV _ (sAnswer P rs f m) ⟨fun v => ∃ m', Thin m m' ∧ R v m'⟩
  | _, _, _ => False
theorem Spec.walkM {g : FuncId} {fn : Func} {c : Code} {xs : List Value} {R : Value → Mem → Prop} {m : Mem} (hf : P.funcs[g]? = some fn) (hb : fn.body = some c) (rs : Array ResultVar) (hr : fn.results = rs) (n : Nat) (hn : fn.ntmps = n) (hx : xs.length ≤ n)
    (h : Within m → (∀ x ∈ xs, Cl m.Has x) → ∀ k, @CW P n k ⟨c⟩ ⟨mEnd P rs.toList R⟩ (alOf 0 xs) m) : Spec P g xs m R := by
  intro ι w ys hys hrel
  have hcl : ∀ x ∈ xs, Cl m.Has x := by
    intro x hx
    obtain ⟨i, hi, rfl⟩ := List.getElem_of_mem hx
    exact (hys.2 i _ _ (List.getElem?_eq_getElem hi) (List.getElem?_eq_getElem (by rw [← hys.1]; exact hi))).cl
  have hw := hrel.within
  have hs : Spec P g xs m fun v M => ∃ M', Thin M M' ∧ R v M' := by
    refine Spec.walk hf hb rs hr n hn hx fun a ha ι₀ m₀ w₀ ι act w hs hA hr => ?_
    refine wp_mono (h hw hcl m₀.size a ha ι₀ m₀ w₀ ι act w (Nat.le_refl _) hs hA hr) ?_
    rintro e act' w' ⟨κ, a', m', ⟨f', h1, h2⟩, h3⟩
    refine ⟨κ, a', m', ⟨f', h1, ?_⟩, h3⟩
    cases e <;> exact h2
  exact (hs.thin fun v M h => h) ι w ys hys hrel
end
end Go.Proofs.YtfdijpacbhomjaaGreatDoor.Abs
namespace Go.Proofs.YtfdijpacbhomjaaGreatDoor.Abs
open Go
section
variable {P : Program} {t tx e : TypeId} {i : TypeInfo} {z : Value} {N : Nat}
theorem src_block {d : TypeId} (hx : P.underlying tx = some (.slice d)) {m : Mem} {g k c : Nat} {ro : Bool} {s : Nat} {news : List Value} (hg : m.get g = some (.cells ro s news)) (hk : news.length = k * N) :
    aSrc P m tx N (.slice (some ⟨g, 0, none⟩) k c) = some (k, news) := by
  unfold aSrc
  simp only [hx, hg, Nat.zero_add, ← hk, Nat.le_refl, if_true, List.drop_zero, List.take_length]
end
theorem beqB_dec (a b : ByteArray) : beqB a b = decide (a = b) := by
  unfold beqB
  rw [Bool.eq_iff_iff, decide_eq_true_eq, beq_iff_eq]
  exact ⟨fun h => ByteArray.ext (Array.ext' h), fun h => by rw [h]⟩
end Go.Proofs.YtfdijpacbhomjaaGreatDoor.Abs
