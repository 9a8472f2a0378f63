/-
  Data that came in, read off the abstract memory; and slices there as the contracts of worlds want them.
  Two archives, held against one another, over the abstract memory.
  Headers that came in, read off the abstract memory.
  The abstract machine over small memories: names of blocks given anew; what is not named any more is let go.
  The abstract machine over small memories: code, walked with names given anew at each joint.
  The abstract machine over small memories: a contract over the blocks that a call reaches, used in any memory.
  The abstract machine over any memory and a few local blocks behind it; the local ones get new names at each joint.
  Walks over any memory with local blocks: what the steps come to.
  Walks in a memory that is written: no base that stays; what is known are blocks by number.
  Appends to local blocks.
-/
import Derived.Test.YtofnagdofpcmpaaGreatDoorArcs08
import Derived.Test.YtofnagdofpcmpaaGreatDoorArcs03
set_option linter.all false
namespace Go.Proofs.YtofnagdofpcmpaaGreatDoor.Abs
open Go Go.RowKit
section
variable {P : Program} {m : Mem} {B : Nat} {t : TypeId} {cs : List Value}
theorem ARep.inv_int {k : IntKind} (hu : P.underlying t = some (.int k)) (h : ARep P m B t cs) : ∃ n, cs = [.int k n] ∧ (Lit.int k n).wf = true := by
  cases h <;> simp_all
theorem ARep.inv_string (hu : P.underlying t = some .string) (h : ARep P m B t cs) : ∃ s, cs = [.string s] ∧ s.size ≤ B := by
  cases h <;> simp_all
theorem ARep.inv_struct {fs : Array Field} (hu : P.underlying t = some (.struct fs)) (h : ARep P m B t cs) : cs.length = P.cellsOf t ∧ ∀ (i : Nat) (f : Field), fs[i]? = some f → ARep P m B f.type ((cs.drop f.offset).take (P.cellsOf f.type)) := by
  have : cs.length = P.cellsOf t ∧ ∀ f ∈ fs.toList, ARep P m B f.type ((cs.drop f.offset).take (P.cellsOf f.type)) := by cases h <;> simp_all
  exact ⟨this.1, fun i f hf => this.2 f (Array.mem_toList_iff.2 (Array.mem_of_getElem? hf))⟩
def Rd (m : Mem) (n : Nat) (v : Value) (k : Nat) (cells : List Value) : Prop :=
  ∃ a cap, v = .slice a k cap ∧ cells.length = k * n ∧ k ≤ cap ∧ cap ≤ maxLen ∧ (a = none → cap = 0) ∧ ∀ p, a = some p → ∃ b, p = ⟨b, 0, none⟩ ∧ (k ≠ 0 → ∃ ro, m.get b = some (.cells ro n cells))
theorem ARep.inv_slice {e : TypeId} (hu : P.underlying t = some (.slice e)) (h : ARep P m B t cs) : ∃ v k cells, cs = [v] ∧ Rd m (P.cellsOf e) v k cells ∧ (k ≤ B ∧ k * P.bytesOf e ≤ reachBytes) ∧ ∀ i, i < k → ARep P m B e ((cells.drop (i * P.cellsOf e)).take (P.cellsOf e)) := by
  cases h with
  | nil h => exact ⟨_, 0, [], rfl, ⟨none, 0, rfl, by simp, Nat.le_refl _, Nat.zero_le _, fun _ => rfl, fun p hp => by cases hp⟩, ⟨Nat.zero_le _, by simp⟩, fun i hi => by omega⟩
  | empty h b cap hb hc hB => exact ⟨_, 0, [], rfl, ⟨_, cap, rfl, by simp, Nat.zero_le _, hc, (fun hp => by cases hp), fun p hp => by cases hp; exact ⟨b, rfl, fun h => absurd rfl h⟩⟩, ⟨Nat.zero_le _, by simp⟩, fun i hi => by omega⟩
  | @slice _ e' h b len cap all hb hl hlc hc hB hx =>
    rw [h] at hu
    cases hu
    exact ⟨_, len, all, rfl, ⟨_, cap, rfl, hl, hlc, hc, (fun hp => by cases hp), fun p hp => by cases hp; exact ⟨b, rfl, fun _ => ⟨true, hb⟩⟩⟩, ⟨Nat.le_trans hlc hB.1, Nat.le_trans (Nat.mul_le_mul_right _ hlc) hB.2⟩, hx⟩
  | struct h => rw [h] at hu; cases hu
  | array h => rw [h] at hu; cases hu
  | _ h => rw [h] at hu; cases hu
theorem list_of_stretches {α : Type} (f : α → List Value) (wf : α → Prop) (n : Nat) : ∀ (k : Nat) (cells : List Value), cells.length = k * n → (∀ i, i < k → ∃ x, (cells.drop (i * n)).take n = f x ∧ wf x) → ∃ xs : List α, xs.length = k ∧ cells = xs.flatMap f ∧ ∀ x ∈ xs, wf x
  | 0, cells, h, _ => ⟨[], rfl, by simpa using h, fun x hx => by simp at hx⟩
  | k + 1, cells, h, hx => by
    rw [Nat.add_mul, Nat.one_mul] at h
    obtain ⟨x, h1, h2⟩ := hx 0 (by omega)
    obtain ⟨xs, g1, g2, g3⟩ := list_of_stretches f wf n k (cells.drop n) (by rw [List.length_drop]; omega) (by
      intro i hi
      obtain ⟨y, k1, k2⟩ := hx (i + 1) (by omega)
      refine ⟨y, ?_, k2⟩
      rw [← k1, List.drop_drop, Nat.add_mul, Nat.one_mul, Nat.add_comm])
    refine ⟨x :: xs, by simp [g1], ?_, fun y hy => ?_⟩
    · rw [List.flatMap_cons, ← g2, ← h1, Nat.zero_mul, List.drop_zero, List.take_append_drop]
    · rcases List.mem_cons.1 hy with rfl | hy
      · exact h2
      · exact g3 y hy
theorem ARep.list {α : Type} (f : α → List Value) (wf : α → Prop) {e : TypeId} {n : Nat} (hu : P.underlying t = some (.slice e)) (hn : P.cellsOf e = n) (he : ∀ cs, ARep P m B e cs → ∃ x, cs = f x ∧ wf x) (h : ARep P m B t cs) :
    ∃ v xs, cs = [v] ∧ Rd m n v (List.length xs) (xs.flatMap f) ∧ (xs.length ≤ B ∧ xs.length * P.bytesOf e ≤ reachBytes) ∧ ∀ x ∈ xs, wf x := by
  subst hn
  obtain ⟨v, k, cells, rfl, hr, hB, hx⟩ := h.inv_slice hu
  have hl : cells.length = k * P.cellsOf e := by obtain ⟨_, _, _, h, _⟩ := hr; exact h
  obtain ⟨xs, rfl, rfl, h3⟩ := list_of_stretches f wf _ k cells hl fun i hi => he _ (hx i hi)
  exact ⟨v, xs, rfl, hr, hB, h3⟩
end
theorem flatMap_at {α : Type} (f : α → List Value) (n : Nat) : ∀ (xs : List α) (i : Nat) (x : α), (∀ x ∈ xs, (f x).length = n) → xs[i]? = some x → ((xs.flatMap f).drop (i * n)).take n = f x
  | [], i, x, _, h => by simp at h
  | y :: r, 0, x, hl, h => by
    simp at h; subst h
    rw [Nat.zero_mul, List.drop_zero, List.flatMap_cons, ← hl y (by simp), List.take_left']
    rfl
  | y :: r, i + 1, x, hl, h => by
    have := flatMap_at f n r i x (fun x hx => hl x (by simp [hx])) (by simpa using h)
    rw [List.flatMap_cons, Nat.add_mul, Nat.one_mul, List.drop_append, List.drop_eq_nil_of_le (by rw [hl y (by simp)]; omega), List.nil_append, hl y (by simp), Nat.add_sub_cancel]
    exact this
theorem Rd.sliceOf {α : Type} {S : Shape α} (f : α → List Value) {ι : Nat → Loc} {m : Mem} {w : World} (hr : Rel ι m w) {xs : List α} {v v' : Value} (hd : Rd m S.n v xs.length (xs.flatMap f)) (hv : VRel m.Has ι v v')
    (hS : ∀ x ∈ xs, S.rep w (f x) x) (hf : ∀ x ∈ xs, ∀ c ∈ f x, flat 3 c = true) : SliceOf S w v' xs := by
  have hlen : ∀ x ∈ xs, (f x).length = S.n := fun x hx => S.len (hS x hx)
  obtain ⟨a, cap, rfl, h1, h2, h3, h4, h5⟩ := hd
  cases a with
  | none =>
    have h0 := h4 rfl
    subst h0
    have hx : xs = [] := List.eq_nil_of_length_eq_zero (by omega)
    subst hx
    cases hv
    exact SliceOf.nil S w
  | some p =>
    obtain ⟨b, rfl, hc⟩ := h5 p rfl
    by_cases h0 : xs = []
    · subst h0
      generalize hk : ([] : List α).length = k at hv
      cases hv with
      | slice _ _ _ _ cap' hlt hl hcc => exact ⟨_, cap', by rw [hk], .inl ⟨rfl, by rcases hcc with hcc | hcc <;> omega, fun h => by cases h⟩⟩
      | empty _ _ p hlt => exact ⟨_, 0, rfl, .inl ⟨rfl, Nat.zero_le _, fun h => by cases h⟩⟩
    · have hpos : 0 < xs.length := List.length_pos_iff.2 h0
      obtain ⟨ro, hg⟩ := hc (by omega)
      obtain ⟨C, e, fz, g1, g2, g3, g4, g5, g6⟩ := hr.at' _ _ _ _ hg
      generalize hk : xs.length = k at hv
      cases hv with
      | empty _ _ p hlt => omega
      | slice _ _ _ _ cap' hlt hl hcc =>
        refine ⟨_, cap', by rw [hk], .inr ⟨(ι b).blk, (ι b).base + 0, rfl, lt_of_heap g1, by rcases hcc with hcc | hcc <;> omega, by rcases hcc with hcc | hcc <;> omega, fun i x hx => ⟨f x, hS x (List.mem_of_getElem? hx), fun j c hj => ?_⟩⟩⟩
        have hfa := flatMap_at f S.n xs i x hlen hx
        have hj0 : j < S.n := by rw [← hlen x (List.mem_of_getElem? hx)]; exact (List.getElem?_eq_some_iff.1 hj).1
        have hc : (xs.flatMap f)[i * S.n + j]? = some c := by
          rw [← hfa, List.getElem?_take, if_pos hj0, List.getElem?_drop] at hj
          exact hj
        obtain ⟨_, v', h8, h9⟩ := g5 _ c hc
        have hfl := hf x (List.mem_of_getElem? hx) c (List.mem_of_getElem? hj)
        rw [← flat_eq 3 c v' hfl h9] at h8
        rw [cell_of_block g1, ← h8]
        congr 1
        omega
theorem vrels_two {n : Nat → Prop} {ι : Nat → Loc} {a b : Value} {ys : List Value} (h : VRels n ι [a, b] ys) : ∃ a' b', ys = [a', b'] ∧ VRel n ι a a' ∧ VRel n ι b b' := by
  have hl := h.1
  match ys, hl with
  | [a', b'], _ => exact ⟨a', b', rfl, h.2 0 _ _ rfl rfl, h.2 1 _ _ rfl rfl⟩
theorem map_flat {α β : Type} (f : α → β) : ∀ l : List α, l.map f = l.flatMap fun x => [f x]
  | [] => rfl
  | x :: r => by rw [List.map_cons, List.flatMap_cons, map_flat f r]; rfl
theorem Rd.strs {ι : Nat → Loc} {m : Mem} {w : World} (hr : Rel ι m w) {xs : List ByteArray} {v v' : Value} (hd : Rd m 1 v xs.length (xs.map .string)) (hv : VRel m.Has ι v v') : SliceOf strS w v' xs := by
  rw [map_flat] at hd
  exact Rd.sliceOf (S := strS) (fun s => [.string s]) hr hd hv (fun _ _ => rfl) fun x _ c hc => by simp at hc; subst hc; rfl
theorem args_one {P : Program} {m : Mem} {B : Nat} {t : TypeId} {ts : List TypeId} {vs : List Value} (h : ArgsOf P m B (t :: ts) vs) : ∃ v r, vs = v :: r ∧ ArgOf P m B t v ∧ ArgsOf P m B ts r := by
  cases h with
  | cons h hs => exact ⟨_, _, rfl, h, hs⟩
theorem args_nil {P : Program} {m : Mem} {B : Nat} {vs : List Value} (h : ArgsOf P m B [] vs) : vs = [] := by cases h; rfl
theorem arg_row {P : Program} {m : Mem} {B : Nat} {t : TypeId} {v : Value} {fs : Array Field} (hu : P.underlying t = some (.struct fs)) (h : ArgOf P m B t v) : ∃ cs : List Value, v = .agg cs.toArray ∧ ARep P m B t cs := by
  unfold ArgOf at h
  rw [hu] at h
  exact h
end Go.Proofs.YtofnagdofpcmpaaGreatDoor.Abs
namespace Go.Proofs.YtofnagdofpcmpaaGreatDoor
open Go.RowKit Abs
theorem arch_rel {n : Nat → Prop} {ι : Nat → Abs.Loc} {h : Header} {v u : Value} (hr : VRel n ι (.agg (archC h v)) u) : ∃ v', u = .agg (archC h v') ∧ VRel n ι v v' := by
  obtain ⟨ys, rfl, hl, hx⟩ := hr.agg_inv
  have hsz : ys.size = 8 := by rw [← Array.length_toList, ← hl]; rfl
  have g : ∀ (i : Nat) (x : Value), (archC h v).toList[i]? = some x → flat 3 x = true → ys[i]? = some x := by
    intro i x hi hf
    have : i < ys.size := by rw [hsz]; exact (List.getElem?_eq_some_iff.1 hi).1
    have h2 := hx i x ys[i] hi (by simp [this])
    rw [Array.getElem?_eq_getElem this, ← flat_eq 3 x _ hf h2]
  obtain ⟨y7, hy7⟩ : ∃ y, ys[7]? = some y := ⟨_, Array.getElem?_eq_getElem (by omega)⟩
  refine ⟨y7, ?_, hx 7 v y7 rfl (by simpa using hy7)⟩
  congr 1
  have hs2 : (archC h y7).size = 8 := rfl
  refine ext_of_same (hsz.trans hs2.symm) fun i x y h1 h2 => ?_
  have hi : i < 8 := by rw [← hsz]; exact (Array.getElem?_eq_some_iff.1 h1).1
  have gg : ∀ (x' : Value), (archC h v).toList[i]? = some x' → flat 3 x' = true → (archC h y7)[i]? = some x' → x = y := fun x' k1 k2 k3 => by
    have := g i x' k1 k2
    rw [this] at h1
    rw [k3] at h2
    exact (Option.some.inj h1).symm.trans (Option.some.inj h2)
  match i, hi with
  | 0, _ => exact gg _ rfl rfl rfl
  | 1, _ => exact gg _ rfl rfl rfl
  | 2, _ => exact gg _ rfl rfl rfl
  | 3, _ => exact gg _ rfl rfl rfl
  | 4, _ => exact gg _ rfl rfl rfl
  | 5, _ => exact gg _ rfl rfl rfl
  | 6, _ => exact gg _ rfl rfl rfl
  | 7, _ =>
    rw [hy7] at h1
    exact (Option.some.inj h1).symm.trans (Option.some.inj h2)
theorem same_at (m : Mem) (h k : Header) (v1 v2 : Value) (xs ys : List ByteArray) (h1 : Rd m 1 v1 xs.length (xs.map .string)) (h2 : Rd m 1 v2 ys.length (ys.map .string)) (hsz : xs.length ≤ 140737488355327) :
    Abs.Spec Tryz.prog 12 [.agg (archC h v1), .agg (archC k v2)] m fun u m' => u = .bool (sameArch h k xs ys) ∧ m' = m :=
  Spec.of_below rfl fun ι w us hy hr => by
    obtain ⟨a, b, rfl, ha, hb⟩ := vrels_two hy
    obtain ⟨a, rfl, ha2⟩ := arch_rel ha
    obtain ⟨b, rfl, hb2⟩ := arch_rel hb
    exact samearch_any h k a b xs ys w (h1.strs hr ha2) (h2.strs hr hb2) hsz
theorem rsame_at (m : Mem) (h k : Header) (v1 v2 : Value) (xs ys : List ByteArray) (h1 : Rd m 1 v1 xs.length (xs.map .string)) (h2 : Rd m 1 v2 ys.length (ys.map .string)) (hsz : xs.length ≤ 140737488355327) :
    Abs.Spec Tryz.prog 13 [.agg (archC h v1), .agg (archC k v2)] m fun u m' => u = .bool (sameArch h k xs ys) ∧ m' = m :=
  Spec.of_below rfl fun ι w us hy hr => by
    obtain ⟨a, b, rfl, ha, hb⟩ := vrels_two hy
    obtain ⟨a, rfl, ha2⟩ := arch_rel ha
    obtain ⟨b, rfl, hb2⟩ := arch_rel hb
    exact rsamearch_any h k a b xs ys w (h1.strs hr ha2) (h2.strs hr hb2) hsz
theorem sameArch_self (h : Header) (xs : List ByteArray) : sameArch h h xs xs = true := decide_eq_true ⟨rfl, rfl⟩
theorem sameArch_comm (h k : Header) (xs ys : List ByteArray) : sameArch k h ys xs = sameArch h k xs ys := decide_eq_decide.2 ⟨fun ⟨a, b⟩ => ⟨a.symm, b.symm⟩, fun ⟨a, b⟩ => ⟨a.symm, b.symm⟩⟩
end Go.Proofs.YtofnagdofpcmpaaGreatDoor
namespace Go.Proofs.YtofnagdofpcmpaaGreatDoor
open Go.RowKit Abs
set_option maxRecDepth 100000 in
theorem rep_header {m : Mem} {B : Nat} {cs : List Value} (h : ARep Tryz.prog m B 34 cs) : ∃ x : Header, cs = x.cells ∧ ((Lit.int .i64 x.id).wf = true ∧ (Lit.int .i64 x.n).wf = true ∧ (Lit.int .i64 x.bytes).wf = true ∧ (Lit.int .i64 x.raw).wf = true) := by
  obtain ⟨hl, hf⟩ := h.inv_struct Tryz.underlying34
  rw [cellsHeader] at hl
  match cs, hl with
  | [c0, c1, c2, c3, c4, c5, c6], _ =>
  obtain ⟨a0, r0, w0⟩ := (hf 0 _ rfl).inv_int Tryz.underlying3
  obtain ⟨a1, r1, w1⟩ := (hf 1 _ rfl).inv_string Tryz.underlying9
  obtain ⟨a2, r2, w2⟩ := (hf 2 _ rfl).inv_int Tryz.underlying3
  obtain ⟨a3, r3, w3⟩ := (hf 3 _ rfl).inv_int Tryz.underlying3
  obtain ⟨a4, r4, w4⟩ := (hf 4 _ rfl).inv_int Tryz.underlying3
  obtain ⟨a5, r5, w5⟩ := (hf 5 _ rfl).inv_string Tryz.underlying9
  obtain ⟨a6, r6, w6⟩ := (hf 6 _ rfl).inv_string Tryz.underlying9
  simp [cellsInt, cellsStr] at r0 r1 r2 r3 r4 r5 r6
  exact ⟨⟨a0, a1, a2, a3, a4, a5, a6⟩, by simp [Header.cells, *], w0, w2, w3, w4⟩
end Go.Proofs.YtofnagdofpcmpaaGreatDoor
namespace Go.Proofs.YtofnagdofpcmpaaGreatDoor.Abs
open Go Go.RowKit
def pos : List Nat → Nat → Option Nat
  | [], _ => none
  | x :: r, b => if b = x then some 0 else match pos r b with
    | some c => some (c + 1)
    | none => none
section
variable {P : Program} {n k : Nat} {f : AL} {m : Mem}
def AK (P : Program) (k : Nat) (c : Code) (Q : Exit → List Value → Mem → Prop) (a : List Value) (m : Mem) : Prop :=
  ∀ (ι₀ : Nat → Loc) (m₀ : Mem) (w₀ : World) (ι : Nat → Loc) (act : Act) (w : World), m₀.size ≤ k → Step ι₀ m₀ w₀ ι m w → ARel m.Has ι a act → Rel ι m w → c.wp P (Post ι₀ m₀ w₀ Q) act w
def CW (P : Program) (n k : Nat) [c : Box Code] [Q : Box (Exit → AL → Mem → Prop)] (f : AL) (m : Mem) : Prop :=
  ∀ a, Knows n f a → AK P k c.k (fun e a' m' => ∃ f', Knows n f' a' ∧ Q.k e f' m') a m
variable {Q : Exit → AL → Mem → Prop}
def cThen [next : Box (AL → Mem → Prop)] [Q : Box (Exit → AL → Mem → Prop)] : Exit → AL → Mem → Prop
  | .normal, f, m => next.k f m
  | e, f, m => Q.k e f m
theorem CW.of_SW {c : Code} (h : SW P n c Q f m) : @CW P n k ⟨c⟩ ⟨Q⟩ f m := fun a ha ι₀ m₀ w₀ ι act w _ => h a ha ι₀ m₀ w₀ ι act w
theorem CW_ret (h : Q .ret f m) : @CW P n k ⟨.ret⟩ ⟨Q⟩ f m := .of_SW (SW_ret h)
theorem CW_region {id : Nat} {ops : Array Oper} (h : @sOpsB P n ops.toList ⟨Q .normal⟩ ops.toList f m) : @CW P n k ⟨.region id ops false⟩ ⟨Q⟩ f m := .of_SW (SW_region h)
theorem CW_draw {id : Nat} {ops : Array Oper} (hmix : P.follows .mixedOrders = true) (q : Nat) (hq : drawOK ops q = true) (hqs : Nat.ble q ops.size = true)
    (h : @sHeadB P n ops.toList m ⟨fun f' M => @sOpsB P n ops.toList ⟨Q .normal⟩ (ops.toList.drop q) f' M⟩ (ops.toList.take q) false f m) : @CW P n k ⟨.region id ops true⟩ ⟨Q⟩ f m := .of_SW (SW_draw hmix q hq hqs h)
theorem CW_seq {x y : Code} (h : @CW P n k ⟨x⟩ ⟨@cThen ⟨@CW P n k ⟨y⟩ ⟨Q⟩⟩ ⟨Q⟩⟩ f m) : @CW P n k ⟨.seq x y⟩ ⟨Q⟩ f m := by
  intro a ha ι₀ m₀ w₀ ι act w h0 hs hA hr
  refine wp_seq (wp_mono (h a ha ι₀ m₀ w₀ ι act w h0 hs hA hr) ?_)
  rintro e act' w' ⟨κ, a', m', ⟨f', h1, h2⟩, h3, h4, h5⟩
  cases e with
  | normal => exact h2 a' h1 ι₀ m₀ w₀ κ act' w' h0 h5 h3 h4
  | _ => exact ⟨κ, a', m', ⟨f', h1, h2⟩, h3, h4, h5⟩
theorem CW_cond {c : Operand} {x y : Code} (t : Bool) (hc : AL.look f c = some (.bool t)) (ht : t = true → @CW P n k ⟨x⟩ ⟨Q⟩ f m) (hf : t = false → @CW P n k ⟨y⟩ ⟨Q⟩ f m) : @CW P n k ⟨.cond c x y⟩ ⟨Q⟩ f m := by
  intro a ha ι₀ m₀ w₀ ι act w h0 hs hA hr
  have he := aEval_rel hA (ha.look c _ hc)
  generalize hv : act.eval c = v at he
  cases he
  exact wp_cond_split hv (fun h => ht h a ha ι₀ m₀ w₀ ι act w h0 hs hA hr) (fun h => hf h a ha ι₀ m₀ w₀ ι act w h0 hs hA hr)
end
end Go.Proofs.YtofnagdofpcmpaaGreatDoor.Abs
namespace Go.Proofs.YtofnagdofpcmpaaGreatDoor.Abs
open Go Go.RowKit
def Within (m : Mem) : Prop := ∀ b x, m.get b = some x → ClBlk m.Has x
section
variable {P : Program} {n k₀ : Nat} {f f' : AL} {b : Mem} {l : List (Option (Option Blk))}
variable {Q : Exit → AL → Mem → Prop}
theorem Rel.within {m : Mem} {ι : Nat → Loc} {w : World} (h : Rel ι m w) : Within m := h.clBlk
end
end Go.Proofs.YtofnagdofpcmpaaGreatDoor.Abs
namespace Go.Proofs.YtofnagdofpcmpaaGreatDoor.Abs
open Go Go.RowKit
def rowIn (n o : Nat) : Option Blk → Option Value
  | some (.cells _ _ cs) => if o + n ≤ cs.length then some (.agg ((cs.drop o).take n).toArray) else none
  | _ => none
section
variable {P : Program} {t : TypeId} {d : TypeDesc} {i : TypeInfo} {n : Nat}
theorem ld_row (hu : P.underlying t = some d) (hd : d.isRow = true) (hi : P.info? t = some i) (hs : i.size = n) (get : Nat → Option Blk) (b o : Nat) : gLoad P get t (.pointer (some ⟨b, o, none⟩)) = rowIn n o (get b) := by
  subst hs
  cases hb : get b with
  | none => simp only [gLoad, hb, rowIn]
  | some x => cases x <;> simp only [gLoad, hb, rowIn, hu, hd, if_true, hi]
end
theorem g_tt : ((some true : Option Bool) == some true) = true := rfl
theorem agg_cells (xs : Array Value) : (Value.agg xs).cells.toList = xs.toList := rfl
theorem row_struct (fs : Array Field) : (TypeDesc.struct fs).isRow = true := rfl
theorem nBox_row {P : Program} (t : TypeId) {xs : Array Value} (h : oneAll xs.toList = true) : nBox P t (.agg xs) = some (.cells false (aStride P t) xs.toList) := by
  unfold nBox
  rw [agg_cells, if_pos h]
def zZ := And.intro (And.intro (And.intro (And.intro (And.intro (And.intro @alOf.eq_1 @alOf.eq_2) (And.intro @sOpsB.eq_1 @sOpsB.eq_2)) (And.intro (And.intro @sOp.eq_1 @sOne.eq_1) (And.intro @sHOne.eq_1 @sHOp.eq_1))) (And.intro (And.intro (And.intro @sGuard.eq_1 @sWant.eq_1) (And.intro @sFun.eq_1 @sGuarded.eq_1)) (And.intro (And.intro @sGuarded.eq_2 @sGuardedV.eq_1) (And.intro @sGuardedV.eq_2 (And.intro @isFn.eq_1 @isFn.eq_3))))) (And.intro (And.intro (And.intro (And.intro @isVal.eq_1 @isVal.eq_2) (And.intro @kind.eq_2 @kind.eq_3)) (And.intro (And.intro @kind.eq_11 @kind.eq_12) (And.intro @kindC.eq_2 (And.intro @withV_some @sVal.eq_1)))) (And.intro (And.intro (And.intro @sVal.eq_2 @sVal.eq_3) (And.intro @sVal.eq_5 @sVal.eq_7)) (And.intro (And.intro @sNew.eq_2 @sNew.eq_3) (And.intro @sArgs.eq_1 (And.intro @sArgs.eq_2 @sParts.eq_1)))))) (And.intro (And.intro (And.intro (And.intro (And.intro @sParts.eq_2 @sBin.eq_1) (And.intro @vPick.eq_1 @vPick.eq_3)) (And.intro (And.intro @vLoad.eq_1 @sCallee.eq_1) (And.intro @AL.look.eq_1 @AL.look.eq_2))) (And.intro (And.intro (And.intro @AL.look.eq_3 @AL.get.eq_1) (And.intro @AL.get.eq_2 @flat.eq_1)) (And.intro (And.intro @flat.eq_5 @sPut.eq_2) (And.intro @isC.eq_2 (And.intro @cThen.eq_1 @sHeadB.eq_1))))) (And.intro (And.intro (And.intro (And.intro @sHeadB.eq_2 @List.take_succ_cons.{0}) (And.intro @List.take_zero.{0} @List.drop_succ_cons.{0})) (And.intro (And.intro @List.drop_zero.{0} @Bool.false_eq_true) (And.intro @Bool.or_false (And.intro @if_true.{1} @if_false.{1})))) (And.intro (And.intro (And.intro @true_and @and_true) (And.intro @List.nil_append.{0} @List.append_nil.{0})) (And.intro (And.intro @Nat.zero_add @Region.wanted.eq_1) (And.intro @g_tt (And.intro @List.getElem?_cons_succ.{0} @List.getElem?_cons_zero.{0}))))))
end Go.Proofs.YtofnagdofpcmpaaGreatDoor.Abs
namespace Go.Proofs.YtofnagdofpcmpaaGreatDoor.Abs
open Go
structure Thin (m m' : Mem) : Prop where
  has : ∀ b, m.Has b → m'.Has b
  get : ∀ b ro s cs, m'.get b = some (.cells ro s cs) → ∃ r, m.get b = some (.cells r s cs) ∧ (r = true → ro = true)
  oth : ∀ b x, m'.get b = some x → (∃ ro s cs, x = .cells ro s cs) ∨ m.get b = some x
theorem Thin.refl (m : Mem) : Thin m m := ⟨fun _ h => h, fun b ro s cs h => ⟨ro, h, fun h => h⟩, fun _ _ h => .inr h⟩
theorem Thin.own {m m' : Mem} (h : Thin m m') {b : Nat} (hb : m'.Own b) : m.Own b := by
  obtain ⟨x, hb, hx⟩ := hb
  rcases h.oth b x hb with ⟨ro, s, cs, rfl⟩ | h1
  · have hro : ro = false := by simpa [Blk.own] using hx
    subst hro
    obtain ⟨r, h1, h2⟩ := h.get b false s cs hb
    cases r with
    | false => exact .of h1
    | true => cases h2 rfl
  · exact ⟨x, h1, hx⟩
theorem Thin.live {m m' : Mem} (h : Thin m m') {b : Nat} (hb : m'.get b ≠ none) : m.get b ≠ none := by
  cases hx : m'.get b with
  | none => exact absurd hx hb
  | some x =>
    rcases h.oth b x hx with ⟨ro, s, cs, rfl⟩ | h1
    · obtain ⟨r, h1, _⟩ := h.get b ro s cs hx
      rw [h1]; simp
    · rw [h1]; simp
theorem Rel.thin {ι : Nat → Loc} {m m' : Mem} {w : World} (h : Rel ι m w) (k : Thin m m') : Rel ι m' w := by
  refine ⟨fun b ro s cs hb => ?_, fun b x hb => ?_, fun b b' hb hb' hne => h.inj b b' (k.live hb) (k.own hb') hne, ⟨h.glob.known, fun b hb => h.glob.own b (k.own hb)⟩⟩
  rotate_left
  · rcases k.oth b x hb with ⟨ro, s, cs, rfl⟩ | h1
    · trivial
    · exact (h.oth b x h1).mono k.has fun _ _ => rfl
  obtain ⟨r, h1, h2⟩ := k.get b ro s cs hb
  obtain ⟨C, e, fz, g1, g2, g3, g4, g5, g6⟩ := h.at' b r s cs h1
  refine ⟨C, e, fz, g1, g2, g3, g4, fun i v hi => ?_, fun hro => g6 ?_⟩
  · obtain ⟨g7, v', g8, g9⟩ := g5 i v hi
    exact ⟨g7, v', g8, g9.mono k.has fun _ _ => rfl⟩
  · cases r with
    | false => rfl
    | true => rw [h2 rfl] at hro; cases hro
theorem Step.thin {ι₀ ι : Nat → Loc} {m₀ m m' : Mem} {w₀ w : World} (h : Step ι₀ m₀ w₀ ι m w) (k : Thin m m') : Step ι₀ m₀ w₀ ι m' w :=
  ⟨h.os, h.tape, h.output, h.size, fun b hb => k.has b (h.grows b hb), h.at_, h.block, fun b hb => h.own b (k.own hb)⟩
theorem Spec.thin {P : Program} {f : FuncId} {xs : List Value} {m : Mem} {R R' : Value → Mem → Prop} (h : Spec P f xs m R) (hr : ∀ v M, R v M → ∃ M', Thin M M' ∧ R' v M') : Spec P f xs m R' := by
  intro ι w ys hy hw
  refine (h ι w ys hy hw).mono ?_
  rintro e w' ⟨v, v', κ, M, h1, h2, h3, h4, h5⟩
  obtain ⟨M', k1, k2⟩ := hr v M h1
  exact ⟨v, v', κ, M', k2, h2, h3.mono k1.has fun _ _ => rfl, h4.thin k1, h5.thin k1⟩
section
variable {P : Program} {n k : Nat} {f : AL} {m : Mem} {Q : Exit → AL → Mem → Prop}
def mEnd (P : Program) (rs : List ResultVar) (R : Value → Mem → Prop) : Exit → AL → Mem → Prop
  | .ret, f, m => @withV _ (sAnswer P rs f m) ⟨fun v => ∃ m', Thin m m' ∧ R v m'⟩
  | .normal, f, m => @withV _ (sAnswer P rs f m) ⟨fun v => ∃ m', Thin m m' ∧ R v m'⟩
  | _, _, _ => False
theorem Spec.walkM {g : FuncId} {fn : Func} {c : Code} {xs : List Value} {R : Value → Mem → Prop} {m : Mem} (hf : P.funcs[g]? = some fn) (hb : fn.body = some c) (rs : Array ResultVar) (hr : fn.results = rs) (n : Nat) (hn : fn.ntmps = n) (hx : xs.length ≤ n)
    (h : Within m → (∀ x ∈ xs, Cl m.Has x) → ∀ k, @CW P n k ⟨c⟩ ⟨mEnd P rs.toList R⟩ (alOf 0 xs) m) : Spec P g xs m R := by
  intro ι w ys hys hrel
  have hcl : ∀ x ∈ xs, Cl m.Has x := by
    intro x hx
    obtain ⟨i, hi, rfl⟩ := List.getElem_of_mem hx
    exact (hys.2 i _ _ (List.getElem?_eq_getElem hi) (List.getElem?_eq_getElem (by rw [← hys.1]; exact hi))).cl
  have hw := hrel.within
  have hs : Spec P g xs m fun v M => ∃ M', Thin M M' ∧ R v M' := by
    refine Spec.walk hf hb rs hr n hn hx fun a ha ι₀ m₀ w₀ ι act w hs hA hr => ?_
    refine wp_mono (h hw hcl m₀.size a ha ι₀ m₀ w₀ ι act w (Nat.le_refl _) hs hA hr) ?_
    rintro e act' w' ⟨κ, a', m', ⟨f', h1, h2⟩, h3⟩
    refine ⟨κ, a', m', ⟨f', h1, ?_⟩, h3⟩
    cases e <;> exact h2
  exact (hs.thin fun v M h => h) ι w ys hys hrel
end
end Go.Proofs.YtofnagdofpcmpaaGreatDoor.Abs
