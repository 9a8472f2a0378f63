/-
  What is known of the package-level variables of a card's seat: those that the library's contracts ask for.
  An abstract machine: the same code over a small memory of numbered blocks, without capacities, orders and addresses. Here: its memory, and how it stands to the model's world.
  The abstract machine's operations on values alone; each does what the model's does.
  The abstract machine's addresses, parts, bounds: each does what the model's does.
-/
import Derived.Orders
import Derived.Laws.IdiomCopy
import Derived.Laws.AppendOwn
import Derived.Laws.StructEq
import Derived.Below
import Derived.KernelRfl
import Derived.Lib.Hide
import Derived.Test.YtfdijpacbhomjaaGreatDoorProg
import Derived.Deep.MidRow
import Derived.Deep.AppendSrc
import Derived.Great.BuildSlice
import Derived.Laws.MakeOwn
import Derived.Laws.BytesString
import Derived.Laws.Slices
set_option linter.all false
namespace Go.Proofs.YtfdijpacbhomjaaGreatDoor.Abs
open Go
def tagT : Option TypeId := none
def bufT : Option TypeId := none
def globTop : Nat := 3
structure GlobK (w : World) : Prop where
  size : globTop ≤ w.heap.size
  maxLen : ∃ m, w.cell? ⟨0, 0, none⟩ = some (.int .i64 m)
theorem GlobK.keep {w w' : World} (h : GlobK w) (hb : ∀ g, g < globTop → w'.heap[g]? = w.heap[g]?) : GlobK w' := by
  have cell : ∀ g, g < globTop → w'.cell? ⟨g, 0, none⟩ = w.cell? ⟨g, 0, none⟩ := fun g hg => by unfold World.cell?; simp only [hb g hg]
  obtain ⟨h1, h2⟩ := h
  refine ⟨?_, ?_⟩
  · have h := hb 2 (by decide)
    unfold globTop at h1 ⊢
    rw [Array.getElem?_eq_getElem (show 2 < w.heap.size by omega)] at h
    have := (Array.getElem?_eq_some_iff.1 h).1
    omega
  · rw [cell _ (by decide)]; exact h2
end Go.Proofs.YtfdijpacbhomjaaGreatDoor.Abs
namespace Go.Proofs.YtfdijpacbhomjaaGreatDoor.Abs
open Go
structure Loc where
  blk : Nat
  base : Nat
  size : Nat
  stride : Nat
inductive Blk where
  | cells (ro : Bool) (stride : Nat) (cs : List Value)
  /-- A map without addresses in it; a way through one. -/
  | kv (ro : Bool) (es : List MapEntry) (clock : Nat)
  | it (ro : Bool) (b since : Nat) (seen : List Nat) (last : Nat)
  /-- A row of the world, as it is. -/
  | raw (ro : Bool) (C : Array Value) (e : TypeId) (lo hi : Nat)
def Blk.own : Blk → Bool
  | .cells ro _ _ => !ro
  | .kv ro _ _ => !ro
  | .it ro _ _ _ _ => !ro
  | .raw ro _ _ _ _ => !ro
structure Mem where
  blks : List (Option (Option Blk))
namespace Mem
def size (m : Mem) : Nat := m.blks.length
def get (m : Mem) (b : Nat) : Option Blk := match m.blks[b]? with | some (some o) => o | _ => none
def Has (m : Mem) (b : Nat) : Prop := ∃ o, m.blks[b]? = some (some o)
def set (m : Mem) (b : Nat) (o : Option Blk) : Mem := ⟨m.blks.set b (some o)⟩
def push (m : Mem) (x : Blk) : Mem := ⟨m.blks ++ [some (some x)]⟩
theorem get_some {m : Mem} {b : Nat} {x : Blk} (h : m.get b = some x) : m.blks[b]? = some (some (some x)) := by
  unfold get at h
  split at h
  · rename_i o ho; rw [ho, h]
  · cases h
theorem get_has {m : Mem} {b : Nat} {x : Blk} (h : m.get b = some x) : m.Has b := ⟨_, get_some h⟩
theorem has_lt {m : Mem} {b : Nat} (h : m.Has b) : b < m.size := by
  obtain ⟨o, ho⟩ := h
  exact (List.getElem?_eq_some_iff.1 ho).1
theorem get_lt {m : Mem} {b : Nat} {x : Blk} (h : m.get b = some x) : b < m.size := has_lt (get_has h)
@[simp] theorem size_set (m : Mem) (b : Nat) (o : Option Blk) : (m.set b o).size = m.size := by simp [size, set]
@[simp] theorem size_push (m : Mem) (x : Blk) : (m.push x).size = m.size + 1 := by simp [size, push]
theorem get_set_same {m : Mem} {b : Nat} {x : Blk} (h : m.get b = some x) (o : Option Blk) : (m.set b o).get b = o := by
  have := get_lt h
  unfold get set
  simp only [size] at this
  simp [this]
theorem get_set_ne {m : Mem} {b c : Nat} (h : b ≠ c) (o : Option Blk) : (m.set b o).get c = m.get c := by
  unfold get set
  simp [List.getElem?_set, h]
theorem has_set {m : Mem} {b c : Nat} (o : Option Blk) (h : m.Has c) : (m.set b o).Has c := by
  obtain ⟨q, hq⟩ := h
  unfold Has set
  rw [List.getElem?_set]
  by_cases e : b = c
  · subst e
    exact ⟨o, by rw [if_pos rfl, if_pos (List.getElem?_eq_some_iff.1 hq).1]⟩
  · exact ⟨q, by rw [if_neg e]; exact hq⟩
theorem get_push_new (m : Mem) (x : Blk) : (m.push x).get m.size = some x := by simp [get, push, size]
theorem get_push_old {m : Mem} {b : Nat} (h : b < m.size) (x : Blk) : (m.push x).get b = m.get b := by
  unfold get push
  simp only [size] at h
  simp [List.getElem?_append, h]
theorem has_push {m : Mem} {b : Nat} (x : Blk) (h : m.Has b) : (m.push x).Has b := by
  have hl := has_lt h
  obtain ⟨o, ho⟩ := h
  simp only [size] at hl
  exact ⟨o, by simp [push, List.getElem?_append, hl]; rw [List.getElem?_eq_getElem hl] at ho; simpa using ho⟩
theorem has_push_new (m : Mem) (x : Blk) : (m.push x).Has m.size := ⟨some x, by simp [push, size]⟩
theorem get_push {m : Mem} {b : Nat} {x y : Blk} (h : (m.push x).get b = some y) : (b < m.size ∧ m.get b = some y) ∨ (b = m.size ∧ x = y) := by
  have hl := get_lt h
  simp only [size_push] at hl
  by_cases hb : b < m.size
  · rw [get_push_old hb] at h; exact .inl ⟨hb, h⟩
  · have e : b = m.size := by omega
    subst e
    rw [get_push_new] at h
    exact .inr ⟨rfl, by simpa using h⟩
end Mem
def flat : Nat → Value → Bool
  | _, .bool _ => true
  | _, .int _ _ => true
  | _, .float _ _ => true
  | _, .complex _ _ _ => true
  | _, .string _ => true
  | _, .pointer none => true
  | _, .slice none 0 0 => true
  | _, .nilFunc => true
  | _, .nilIface => true
  | _, .map none => true
  | n + 1, .agg cs => cs.toList.all (flat n)
  | n + 1, .tuple cs => cs.toList.all (flat n)
  | n + 1, .iface _ v => flat n v
  | n + 1, .func (.func _) fs cs => fs.toList.all (flat n) && cs.toList.all (flat n)
  | _, _ => false
def isRef : Value → Bool
  | .pointer _ => true
  | .slice .. => true
  | .map _ => true
  | _ => false
inductive VRel (n : Nat → Prop) (ι : Nat → Loc) : Value → Value → Prop
  | bool (b : Bool) : VRel n ι (.bool b) (.bool b)
  | int (k : IntKind) (x : Int) : VRel n ι (.int k x) (.int k x)
  | float (k : FloatKind) (x : Nat) : VRel n ι (.float k x) (.float k x)
  | complex (k : FloatKind) (x y : Nat) : VRel n ι (.complex k x y) (.complex k x y)
  | string (s : ByteArray) : VRel n ι (.string s) (.string s)
  | nilPtr : VRel n ι (.pointer none) (.pointer none)
  | nilSlice : VRel n ι (.slice none 0 0) (.slice none 0 0)
  | nilFunc : VRel n ι .nilFunc .nilFunc
  | nilIface : VRel n ι .nilIface .nilIface
  | nilMap : VRel n ι (.map none) (.map none)
  | map (b : Nat) (h : n b) : VRel n ι (.map (some b)) (.map (some (ι b).blk))
  /-- Of which nothing is known but that it is a pointer or a slice. -/
  | junk (y : Value) (h : isRef y = true) : VRel n ι (.chan none) y
  | ptr (b o : Nat) (h : n b) : VRel n ι (.pointer (some ⟨b, o, none⟩)) (.pointer (some ⟨(ι b).blk, (ι b).base + o, none⟩))
  | slice (b o len cap cap' : Nat) (h : n b) (hl : len ≤ cap) (hc : cap' = cap ∨ (cap ≤ cap' ∧ (ι b).base + o + cap' * (ι b).stride ≤ (ι b).size ∧ cap' ≤ maxLen)) :
      VRel n ι (.slice (some ⟨b, o, none⟩) len cap) (.slice (some ⟨(ι b).blk, (ι b).base + o, none⟩) len cap')
  | empty (b o : Nat) (p : Addr) (h : n b) : VRel n ι (.slice (some ⟨b, o, none⟩) 0 0) (.slice (some p) 0 0)
  | agg (xs ys : Array Value) (hs : xs.size = ys.size) (h : ∀ (i : Nat) (x y : Value), xs[i]? = some x → ys[i]? = some y → VRel n ι x y) : VRel n ι (.agg xs) (.agg ys)
  | tuple (xs ys : Array Value) (hs : xs.size = ys.size) (h : ∀ (i : Nat) (x y : Value), xs[i]? = some x → ys[i]? = some y → VRel n ι x y) : VRel n ι (.tuple xs) (.tuple ys)
  | iface (t : TypeId) (x y : Value) (h : VRel n ι x y) : VRel n ι (.iface t x) (.iface t y)
  | func (f : FuncId) (xs ys zs ws : Array Value) (hs : xs.size = ys.size) (h : ∀ (i : Nat) (x y : Value), xs[i]? = some x → ys[i]? = some y → VRel n ι x y)
      (hs2 : zs.size = ws.size) (h2 : ∀ (i : Nat) (x y : Value), zs[i]? = some x → ws[i]? = some y → VRel n ι x y) : VRel n ι (.func (.func f) xs zs) (.func (.func f) ys ws)
def VRels (n : Nat → Prop) (ι : Nat → Loc) (xs ys : List Value) : Prop := xs.length = ys.length ∧ ∀ (i : Nat) (x y : Value), xs[i]? = some x → ys[i]? = some y → VRel n ι x y
theorem VRel.aggs {n : Nat → Prop} {ι : Nat → Loc} {xs ys : Array Value} (h : VRels n ι xs.toList ys.toList) : VRel n ι (.agg xs) (.agg ys) :=
  .agg xs ys (by simpa using h.1) fun i x y hx hy => h.2 i x y (by simpa using hx) (by simpa using hy)
theorem VRel.tuples {n : Nat → Prop} {ι : Nat → Loc} {xs ys : Array Value} (h : VRels n ι xs.toList ys.toList) : VRel n ι (.tuple xs) (.tuple ys) :=
  .tuple xs ys (by simpa using h.1) fun i x y hx hy => h.2 i x y (by simpa using hx) (by simpa using hy)
theorem VRel.agg_inv {n : Nat → Prop} {ι : Nat → Loc} {xs : Array Value} {v : Value} (h : VRel n ι (.agg xs) v) : ∃ ys : Array Value, v = .agg ys ∧ VRels n ι xs.toList ys.toList := by
  cases h with
  | agg _ ys hs h => exact ⟨ys, rfl, by simpa using hs, fun i x y hx hy => h i x y (by simpa using hx) (by simpa using hy)⟩
theorem VRel.tuple_inv {n : Nat → Prop} {ι : Nat → Loc} {xs : Array Value} {v : Value} (h : VRel n ι (.tuple xs) v) : ∃ ys : Array Value, v = .tuple ys ∧ VRels n ι xs.toList ys.toList := by
  cases h with
  | tuple _ ys hs h => exact ⟨ys, rfl, by simpa using hs, fun i x y hx hy => h i x y (by simpa using hx) (by simpa using hy)⟩
theorem flat_rel {n : Nat → Prop} {ι : Nat → Loc} : ∀ (k : Nat) (v : Value), flat k v = true → VRel n ι v v := by
  intro k
  induction k with
  | zero =>
    intro v h
    cases v <;> first | exact .bool _ | exact .int _ _ | exact .float _ _ | exact .complex _ _ _ | exact .string _ | exact .nilFunc | exact .nilIface | skip
    case pointer a => cases a <;> first | exact .nilPtr | (simp [flat] at h)
    case slice a l c => 
      cases a
      · cases l <;> cases c <;> first | exact .nilSlice | (simp [flat] at h)
      · simp [flat] at h
    case map r => cases r <;> first | exact .nilMap | (simp [flat] at h)
    all_goals simp [flat] at h
  | succ k ih =>
    intro v h
    have arr : ∀ cs : Array Value, cs.toList.all (flat k) = true → ∀ (i : Nat) (x y : Value), cs[i]? = some x → cs[i]? = some y → VRel n ι x y := by
      intro cs hc i x y hx hy
      rw [hx] at hy
      cases hy
      refine ih x (List.all_eq_true.1 hc x ?_)
      exact Array.mem_toList_iff.2 (Array.mem_of_getElem? hx)
    cases v <;> first | exact .bool _ | exact .int _ _ | exact .float _ _ | exact .complex _ _ _ | exact .string _ | exact .nilFunc | exact .nilIface | skip
    case pointer a => cases a <;> first | exact .nilPtr | (simp [flat] at h)
    case slice a l c => 
      cases a
      · cases l <;> cases c <;> first | exact .nilSlice | (simp [flat] at h)
      · simp [flat] at h
    case map r => cases r <;> first | exact .nilMap | (simp [flat] at h)
    case agg cs => exact .agg cs cs rfl (arr cs (by simpa [flat] using h))
    case tuple cs => exact .tuple cs cs rfl (arr cs (by simpa [flat] using h))
    case iface t v => exact .iface t v v (ih v (by simpa [flat] using h))
    case func fn fs cs =>
      cases fn <;> simp [flat] at h
      exact .func _ fs fs cs cs rfl (arr fs (by simpa using h.1)) rfl (arr cs (by simpa using h.2))
    all_goals simp [flat] at h
theorem ext_of_same {xs ys : Array Value} (hs : xs.size = ys.size) (h : ∀ (i : Nat) (x y : Value), xs[i]? = some x → ys[i]? = some y → x = y) : xs = ys := by
  apply Array.ext hs
  intro i h1 h2
  exact h i _ _ (Array.getElem?_eq_getElem h1) (Array.getElem?_eq_getElem h2)
theorem flat_eq {n : Nat → Prop} {ι : Nat → Loc} : ∀ (k : Nat) (v u : Value), flat k v = true → VRel n ι v u → v = u := by
  intro k
  induction k with
  | zero =>
    intro v u h hr
    cases hr <;> first | rfl | (simp [flat] at h)
  | succ k ih =>
    intro v u h hr
    cases hr with
    | agg xs ys hs hh =>
      simp only [flat, List.all_eq_true] at h
      rw [ext_of_same hs fun i x y hx hy => ih x y (h x (Array.mem_toList_iff.2 (Array.mem_of_getElem? hx))) (hh i x y hx hy)]
    | tuple xs ys hs hh =>
      simp only [flat, List.all_eq_true] at h
      rw [ext_of_same hs fun i x y hx hy => ih x y (h x (Array.mem_toList_iff.2 (Array.mem_of_getElem? hx))) (hh i x y hx hy)]
    | iface t x y hh => rw [ih x y (by simpa [flat] using h) hh]
    | func f xs ys zs ws hs hh hs2 hh2 =>
      simp only [flat, Bool.and_eq_true, List.all_eq_true] at h
      rw [ext_of_same hs fun i x y hx hy => ih x y (h.1 x (Array.mem_toList_iff.2 (Array.mem_of_getElem? hx))) (hh i x y hx hy),
        ext_of_same hs2 fun i x y hx hy => ih x y (h.2 x (Array.mem_toList_iff.2 (Array.mem_of_getElem? hx))) (hh2 i x y hx hy)]
    | _ => first | rfl | (simp [flat] at h)
theorem VRel.mono {n m : Nat → Prop} {ι κ : Nat → Loc} (hn : ∀ b, n b → m b) (hk : ∀ b, n b → κ b = ι b) {x y : Value} (h : VRel n ι x y) : VRel m κ x y := by
  induction h with
  | ptr b o h => rw [← hk b h]; exact .ptr b o (hn b h)
  | slice b o len cap cap' h hl hc => rw [← hk b h] at hc ⊢; exact .slice b o len cap cap' (hn b h) hl hc
  | empty b o p h => exact .empty b o p (hn b h)
  | map b h => rw [← hk b h]; exact .map b (hn b h)
  | agg xs ys hs _ ih => exact .agg xs ys hs ih
  | tuple xs ys hs _ ih => exact .tuple xs ys hs ih
  | iface t x y _ ih => exact .iface t x y ih
  | func f xs ys zs ws hs _ hs2 _ ih ih2 => exact .func f xs ys zs ws hs ih hs2 ih2
  | junk y h => exact .junk y h
  | bool | int | float | complex | string | nilPtr | nilSlice | nilFunc | nilIface | nilMap => constructor
theorem VRels.mono {n m : Nat → Prop} {ι κ : Nat → Loc} (hn : ∀ b, n b → m b) (hk : ∀ b, n b → κ b = ι b) {xs ys : List Value} (h : VRels n ι xs ys) : VRels m κ xs ys :=
  ⟨h.1, fun i x y hx hy => (h.2 i x y hx hy).mono hn hk⟩
theorem VRel.one {n : Nat → Prop} {ι : Nat → Loc} {x y : Value} (h : VRel n ι x y) : y.oneCell' = x.oneCell' := by
  cases h <;> first | rfl | (rename_i hr; cases y <;> first | rfl | cases hr)
theorem VRel.cells {n : Nat → Prop} {ι : Nat → Loc} {x y : Value} (h : VRel n ι x y) : VRels n ι x.cells.toList y.cells.toList := by
  have h0 := h
  cases h with
  | agg xs ys hs hh => exact ⟨by simpa [Value.cells] using hs, fun i x y hx hy => hh i x y (by simpa [Value.cells] using hx) (by simpa [Value.cells] using hy)⟩
  | junk y h =>
    have e : y.cells = #[y] := by cases y <;> first | rfl | (simp [isRef] at h)
    rw [e]
    refine ⟨rfl, fun i x z hx hy => ?_⟩
    cases i with
    | zero => simp [Value.cells] at hx hy; subst hx; subst hy; exact h0
    | succ i => simp [Value.cells] at hx
  | _ =>
    refine ⟨rfl, fun i x y hx hy => ?_⟩
    cases i with
    | zero => simp [Value.cells] at hx hy; subst hx; subst hy; exact h0
    | succ i => simp [Value.cells] at hx
theorem VRels.nil {n : Nat → Prop} {ι : Nat → Loc} : VRels n ι [] [] := ⟨rfl, fun i x y hx => by simp at hx⟩
theorem VRels.cons {n : Nat → Prop} {ι : Nat → Loc} {x y : Value} {xs ys : List Value} (h : VRel n ι x y) (hs : VRels n ι xs ys) : VRels n ι (x :: xs) (y :: ys) := by
  refine ⟨by simp [hs.1], fun i a b ha hb => ?_⟩
  cases i with
  | zero => simp at ha hb; subst ha; subst hb; exact h
  | succ i => exact hs.2 i a b (by simpa using ha) (by simpa using hb)
theorem VRels.append {n : Nat → Prop} {ι : Nat → Loc} {xs ys zs ws : List Value} (h : VRels n ι xs ys) (k : VRels n ι zs ws) : VRels n ι (xs ++ zs) (ys ++ ws) := by
  refine ⟨by simp [h.1, k.1], fun i a b ha hb => ?_⟩
  rw [List.getElem?_append] at ha hb
  by_cases hi : i < xs.length
  · rw [if_pos hi] at ha
    rw [if_pos (by rw [← h.1]; exact hi)] at hb
    exact h.2 i a b ha hb
  · rw [if_neg hi] at ha
    rw [if_neg (by rw [← h.1]; exact hi), ← h.1] at hb
    exact k.2 _ a b ha hb
theorem VRels.get {n : Nat → Prop} {ι : Nat → Loc} {xs ys : List Value} (h : VRels n ι xs ys) {i : Nat} {x : Value} (hx : xs[i]? = some x) : ∃ y, ys[i]? = some y ∧ VRel n ι x y := by
  have hi : i < ys.length := by rw [← h.1]; exact (List.getElem?_eq_some_iff.1 hx).1
  exact ⟨ys[i], List.getElem?_eq_getElem hi, h.2 i x _ hx (List.getElem?_eq_getElem hi)⟩
theorem VRels.set {n : Nat → Prop} {ι : Nat → Loc} {xs ys : List Value} (h : VRels n ι xs ys) (i : Nat) {x y : Value} (hv : VRel n ι x y) : VRels n ι (xs.set i x) (ys.set i y) := by
  refine ⟨by simp [h.1], fun j a b ha hb => ?_⟩
  rw [List.getElem?_set] at ha hb
  by_cases hij : i = j
  · subst hij
    rw [if_pos rfl] at ha hb
    split at ha
    · split at hb
      · cases ha; cases hb; exact hv
      · cases hb
    · cases ha
  · rw [if_neg hij] at ha hb
    exact h.2 j a b ha hb
theorem VRels.drop {n : Nat → Prop} {ι : Nat → Loc} {xs ys : List Value} (h : VRels n ι xs ys) (k : Nat) : VRels n ι (xs.drop k) (ys.drop k) :=
  ⟨by simp [h.1], fun i a b ha hb => h.2 (k + i) a b (by simpa using ha) (by simpa using hb)⟩
theorem VRels.take {n : Nat → Prop} {ι : Nat → Loc} {xs ys : List Value} (h : VRels n ι xs ys) (k : Nat) : VRels n ι (xs.take k) (ys.take k) := by
  refine ⟨by simp [h.1], fun i a b ha hb => ?_⟩
  rw [List.getElem?_take] at ha hb
  split at ha
  · rename_i hik; rw [if_pos hik] at hb; exact h.2 i a b ha hb
  · cases ha
def Mem.Own (m : Mem) (b : Nat) : Prop := ∃ x, m.get b = some x ∧ x.own = true
theorem Mem.Own.of {m : Mem} {b s : Nat} {cs : List Value} (h : m.get b = some (.cells false s cs)) : m.Own b := ⟨_, h, rfl⟩
structure Glob (ι : Nat → Loc) (m : Mem) (w : World) : Prop where
  known : GlobK w
  own : ∀ b, m.Own b → globTop ≤ (ι b).blk
def bufS : Nat := 18446744073709551616
def TagAt (base s : Nat) (e : TypeId) (size len : Nat) : Prop := (s = 0 → 0 < len → tagT = some e ∧ base = 0 ∧ size = len) ∧ (s = bufS → 0 < len → len < bufS → bufT = some e ∧ base = 0 ∧ size < bufS)
theorem TagAt.row {base s : Nat} {e : TypeId} {size len : Nat} (n : Nat) (h : len = n * s) : TagAt base s e size len := by
  refine ⟨fun h0 hp => ?_, fun h0 hp hl => ?_⟩
  · rw [h, h0, Nat.mul_zero] at hp; omega
  · cases n with
    | zero => omega
    | succ n => rw [h, h0, Nat.succ_mul] at hl; omega
theorem TagAt.one {base : Nat} {e : TypeId} {size len : Nat} : TagAt base 1 e size len := by
  refine ⟨fun h => ?_, fun h => ?_⟩
  · omega
  · unfold bufS at h; omega
structure StrideAt (l : Loc) (s : Nat) (e : TypeId) (size len : Nat) : Prop where
  eq : l.stride = s
  tag : TagAt l.base s e size len
def Blk.Told (ι : Nat → Loc) (n : Nat → Prop) (o : Option Obj) (base : Nat) : Blk → Prop
  | .cells .. => True
  | .kv _ es c => o = some (.map es.toArray c) ∧ base = 0 ∧ ∀ e ∈ es, flat 3 e.key = true ∧ flat 3 e.val = true
  | .it _ b s seen l => o = some (.mapIter (some (ι b).blk) s seen.toArray l) ∧ base = 0 ∧ n b
  | .raw _ C e lo hi => o = some (.cells C e (lo, hi)) ∧ base = 0
theorem Blk.Told.mono {ι κ : Nat → Loc} {n n' : Nat → Prop} (hn : ∀ b, n b → n' b) (hk : ∀ b, n b → κ b = ι b) {o : Option Obj} {base : Nat} {x : Blk} (h : x.Told ι n o base) : x.Told κ n' o base := by
  cases x with
  | cells => trivial
  | kv => exact h
  | raw => exact h
  | it ro b s seen l => obtain ⟨h1, h2, h3⟩ := h; exact ⟨by rw [hk b h3]; exact h1, h2, hn b h3⟩
structure Rel (ι : Nat → Loc) (m : Mem) (w : World) : Prop where
  at' : ∀ b ro s cs, m.get b = some (.cells ro s cs) → ∃ C e fz, w.heap[(ι b).blk]? = some (.cells C e fz) ∧ C.size = (ι b).size ∧ StrideAt (ι b) s e C.size cs.length ∧ (ι b).base + cs.length ≤ C.size ∧
    (∀ i v, cs[i]? = some v → v.oneCell' = true ∧ ∃ v', C[(ι b).base + i]? = some v' ∧ VRel m.Has ι v v') ∧ (ro = false → ∀ i, i < C.size → ¬ (fz.1 ≤ i ∧ i < fz.2))
  oth : ∀ b x, m.get b = some x → x.Told ι m.Has w.heap[(ι b).blk]? (ι b).base
  inj : ∀ b b', m.get b ≠ none → m.Own b' → b ≠ b' → (ι b).blk ≠ (ι b').blk
  glob : Glob ι m w
structure Step (ι : Nat → Loc) (m : Mem) (w : World) (κ : Nat → Loc) (m' : Mem) (w' : World) : Prop where
  os : w'.os = w.os
  tape : w'.tape = w.tape
  output : w'.output = w.output
  size : w.heap.size ≤ w'.heap.size
  grows : ∀ b, m.Has b → m'.Has b
  at_ : ∀ b, m.Has b → κ b = ι b
  block : ∀ g, g < w.heap.size → (∀ b, m.Own b → (ι b).blk ≠ g) → w'.heap[g]? = w.heap[g]?
  own : ∀ b, m'.Own b → w.heap.size ≤ (κ b).blk ∨ ∃ b', m.Own b' ∧ (ι b').blk = (κ b).blk
theorem Step.refl (ι : Nat → Loc) (m : Mem) (w : World) : Step ι m w ι m w :=
  ⟨rfl, rfl, rfl, Nat.le_refl _, fun _ h => h, fun _ _ => rfl, fun _ _ _ => rfl, fun b hb => .inr ⟨b, hb, rfl⟩⟩
theorem Step.trans {ι κ μ : Nat → Loc} {m m' m'' : Mem} {w w' w'' : World} (h : Step ι m w κ m' w') (k : Step κ m' w' μ m'' w'') : Step ι m w μ m'' w'' where
  os := k.os.trans h.os
  tape := k.tape.trans h.tape
  output := k.output.trans h.output
  size := Nat.le_trans h.size k.size
  grows b hb := k.grows b (h.grows b hb)
  at_ b hb := (k.at_ b (h.grows b hb)).trans (h.at_ b hb)
  block g hg ho := by
    rw [k.block g (Nat.lt_of_lt_of_le hg h.size) ?_, h.block g hg ho]
    intro b hb e
    rcases h.own b hb with h1 | ⟨b', h1, h2⟩
    · omega
    · exact ho b' h1 (h2.trans e)
  own b hb := by
    rcases k.own b hb with h1 | ⟨b', h1, h2⟩
    · exact .inl (Nat.le_trans h.size h1)
    · rcases h.own b' h1 with h3 | ⟨b'', h3, h4⟩
      · exact .inl (by omega)
      · exact .inr ⟨b'', h3, h4.trans h2⟩
class Defs where
  l : List Deferred
instance (priority := low) defsNil : Defs := ⟨[]⟩
section
variable [Defs]
structure ARel (n : Nat → Prop) (ι : Nat → Loc) (a : List Value) (act : Act) : Prop where
  defers : act.defers = Defs.l
  tmps : VRels n ι a act.tmps.toList
theorem ARel.mono {n m : Nat → Prop} {ι κ : Nat → Loc} (hn : ∀ b, n b → m b) (hk : ∀ b, n b → κ b = ι b) {a : List Value} {act : Act} (h : ARel n ι a act) : ARel m κ a act := ⟨h.defers, h.tmps.mono hn hk⟩
theorem ARel.put {n : Nat → Prop} {ι : Nat → Loc} {a : List Value} {act : Act} (h : ARel n ι a act) (t : Nat) {v v' : Value} (hv : VRel n ι v v') : ARel n ι (a.set t v) (act.put (some t) v') :=
  ⟨h.defers, by simp only [Act.put, Array.toList_setIfInBounds]; exact h.tmps.set t hv⟩
def aPut (a : List Value) (dst : Option Nat) (v : Value) : List Value := match dst with | some t => a.set t v | none => a
theorem ARel.put' {n : Nat → Prop} {ι : Nat → Loc} {a : List Value} {act : Act} (h : ARel n ι a act) (dst : Option Nat) {v v' : Value} (hv : VRel n ι v v') : ARel n ι (aPut a dst v) (act.put dst v') := by
  cases dst with
  | none => exact h
  | some t => exact h.put t hv
def aEval (a : List Value) : Operand → Option Value
  | .tmp t => a[t]?
  | .const v => if flat 3 v then some v else none
  | .func f => some (.func (.func f) #[] #[])
  | .global _ => none
theorem aEval_rel {n : Nat → Prop} {ι : Nat → Loc} {a : List Value} {act : Act} (h : ARel n ι a act) {x : Operand} {v : Value} (hv : aEval a x = some v) : VRel n ι v (act.eval x) := by
  cases x with
  | tmp t =>
    obtain ⟨y, hy, hr⟩ := h.tmps.get hv
    have : act.eval (.tmp t) = y := by
      have hy' : act.tmps[t]? = some y := by simpa using hy
      simp [Act.eval, hy']
    rw [this]; exact hr
  | const c =>
    simp only [aEval] at hv
    split at hv
    · rename_i hf; cases hv; exact flat_rel 3 _ hf
    · cases hv
  | global g => cases hv
  | func f => cases hv; exact .func f #[] #[] #[] #[] rfl (fun i x y hx => by simp at hx) rfl (fun i x y hx => by simp at hx)
def aYielded (ops : List Oper) (a : List Value) (j : Nat) : Option Bool :=
  match ops[j]? with
  | some o => match o.dst with
    | some t => match a[t]? with
      | some (.bool b) => some b
      | _ => none
    | none => none
  | none => none
theorem yielded_rel {n : Nat → Prop} {ι : Nat → Loc} {a : List Value} {act : Act} (h : ARel n ι a act) (ops : Array Oper) (j : Nat) : yielded ops act.tmps j = aYielded ops.toList a j := by
  unfold yielded aYielded
  simp only [Array.getElem?_toList]
  cases ho : ops[j]? with
  | none => simp
  | some o =>
    cases hd : o.dst with
    | none => simp [hd]
    | some t =>
      simp only [Option.bind_some, hd]
      cases hx : a[t]? with
      | none =>
        have : act.tmps[t]? = none := by
          have h1 := h.tmps.1
          have h2 := List.getElem?_eq_none_iff.1 hx
          rw [Array.getElem?_eq_none_iff]
          simp only [Array.length_toList] at h1
          omega
        simp [this]
      | some x =>
        obtain ⟨y, hy, hr⟩ := h.tmps.get hx
        have hy' : act.tmps[t]? = some y := by simpa using hy
        simp only [hy']
        cases hr <;> first | rfl | (rename_i hj; cases y <;> first | rfl | cases hj)
end
end Go.Proofs.YtfdijpacbhomjaaGreatDoor.Abs
namespace Go.Proofs.YtfdijpacbhomjaaGreatDoor.Abs
open Go
def bcat (a b : ByteArray) : ByteArray := ⟨⟨a.data.toList ++ b.data.toList⟩⟩
theorem bcat_eq (a b : ByteArray) : bcat a b = a ++ b := by
  apply ByteArray.ext
  apply Array.ext'
  simp [bcat]
def bsub (a : ByteArray) (l h : Nat) : ByteArray := ⟨⟨(a.data.toList.drop l).take (h - l)⟩⟩
theorem bsub_eq (a : ByteArray) (l h : Nat) : bsub a l h = a.extract l h := by
  apply ByteArray.ext
  apply Array.ext'
  simp [bsub, List.extract_eq_take_drop]
def beqB (a b : ByteArray) : Bool := a.data.toList == b.data.toList
theorem beqB_eq (a b : ByteArray) : beqB a b = (a.toList == b.toList) := by rw [beqB, ByteArray.toList_eq, ByteArray.toList_eq]
def bsize (a : ByteArray) : Nat := a.data.toList.length
theorem bsize_eq (a : ByteArray) : bsize a = a.size := by simp [bsize]
def aInt (op : BinOp) (k : IntKind) (a b : Int) : Option Value :=
  match op with
  | .add => some (.int k (k.wrap (a + b)))
  | .sub => some (.int k (k.wrap (a - b)))
  | .mul => some (.int k (k.wrap (a * b)))
  | .quo => if b = 0 then none else some (.int k (k.wrap (a.tdiv b)))
  | .rem => if b = 0 then none else some (.int k (a.tmod b))
  | .and => some (.int k (k.wrap ((BitVec.ofInt k.bits a &&& BitVec.ofInt k.bits b).toNat : Nat)))
  | .or => some (.int k (k.wrap ((BitVec.ofInt k.bits a ||| BitVec.ofInt k.bits b).toNat : Nat)))
  | .xor => some (.int k (k.wrap ((BitVec.ofInt k.bits a ^^^ BitVec.ofInt k.bits b).toNat : Nat)))
  | .andNot => some (.int k (k.wrap ((BitVec.ofInt k.bits a &&& ~~~BitVec.ofInt k.bits b).toNat : Nat)))
  | .eql => some (.bool (a == b))
  | .neq => some (.bool (a != b))
  | .lss => some (.bool (a < b))
  | .leq => some (.bool (a ≤ b))
  | .gtr => some (.bool (a > b))
  | .geq => some (.bool (a ≥ b))
  | _ => none
def aStr (op : BinOp) (a b : ByteArray) : Option Value :=
  match op with
  | .add => if bsize a + bsize b ≤ 4611686018427387904 then some (.string (bcat a b)) else none
  | .eql => some (.bool (beqB a b))
  | .neq => some (.bool (!beqB a b))
  | .lss => some (.bool (Op.bytesLess a.data.toList b.data.toList))
  | .leq => some (.bool (Op.bytesLess a.data.toList b.data.toList || beqB a b))
  | .gtr => some (.bool (!(Op.bytesLess a.data.toList b.data.toList || beqB a b)))
  | .geq => some (.bool (!Op.bytesLess a.data.toList b.data.toList))
  | _ => none
def aPart (P : Program) (t : TypeId) (cs : List Value) (off : Nat) : Option Value :=
  match P.underlying t with
  | none => none
  | some d => if d.isRow then match P.info? t with
      | some i => some (.agg ((cs.drop off).take i.size).toArray)
      | none => none
    else cs[off]?
def aEq (P : Program) : Nat → TypeId → Value → Value → Option Bool
  | 0, _, _, _ => none
  | d + 1, t, x, y =>
    match P.underlying t with
    | none => none
    | some .bool => match x, y with | .bool a, .bool b => some (a == b) | _, _ => none
    | some (.int _) => match x, y with | .int k a, .int k' b => if k = k' then some (a == b) else none | _, _ => none
    | some .string => match x, y with | .string a, .string b => some (beqB a b) | _, _ => none
    | some (.pointer e) => match x, y with
      | .pointer none, .pointer b => some b.isNone
      | .pointer (some _), .pointer none => some false
      | .pointer (some a), .pointer (some b) => match P.info? e with
        | some i => if i.size ≠ 0 ∧ a.block = b.block ∧ a.spot = none ∧ b.spot = none then some (a.off == b.off) else none
        | none => none
      | _, _ => none
    | some (.slice _) => match x, y with
      | .slice none _ _, .slice b _ _ => some b.isNone
      | .slice (some _) _ _, .slice none _ _ => some false
      | _, _ => none
    | some (.func _ _ _) => match x, y with
      | .nilFunc, .nilFunc => some true
      | .nilFunc, .func _ _ _ => some false
      | .func _ _ _, .nilFunc => some false
      | _, _ => none
    | some (.interface _) => match x, y with
      | .nilIface, .nilIface => some true
      | .nilIface, .iface _ _ => some false
      | .iface _ _, .nilIface => some false
      | _, _ => none
    | some (.struct fs) => match x, y with
      | .agg xs, .agg ys => if P.stoodInHeld t then none else fs.toList.foldr (fun f r =>
          if f.name ≠ "_" then match aPart P f.type xs.toList f.offset, aPart P f.type ys.toList f.offset with
            | some a, some b => match aEq P d f.type a b with
              | some true => r
              | some false => some false
              | none => none
            | _, _ => none
          else r) (some true)
      | _, _ => none
    | some (.array n e) => match x, y with
      | .agg xs, .agg ys => match P.info? e with
        | some _ => (List.range n).foldr (fun i r => match aPart P e xs.toList (i * P.cellsOf e), aPart P e ys.toList (i * P.cellsOf e) with
          | some a, some b => match aEq P d e a b with
            | some true => r
            | some false => some false
            | none => none
          | _, _ => none) (some true)
        | none => none
      | _, _ => none
    | _ => none
def isC (x : Operand) : Bool := match x with | .const _ => true | _ => false
def eqBad (P : Program) (t : TypeId) (cx : Bool) (x y : Value) : Bool :=
  match x, y with
  | .agg _, .agg _ => P.eqGuardType P.depth t
  | .nilIface, .nilIface => !cx
  | _, _ => false
def aCompare (P : Program) (op : BinOp) (t : TypeId) (cx : Bool) (x y : Value) : Option Value :=
  if eqBad P t cx x y = true then none else
  match op with
  | .eql => (aEq P 8 t x y).map .bool
  | .neq => (aEq P 8 t x y).map fun b => .bool !b
  | _ => none
def aBin (P : Program) (op : BinOp) (t : TypeId) (cx : Bool) (x y : Value) : Option Value :=
  match x, y with
  | .int k a, .int k' b =>
    match op with
    | .shl => if 0 ≤ b then some (.int k (k.wrap (a * 2 ^ min b.toNat k.bits))) else none
    | .shr => if 0 ≤ b then some (.int k (a.fdiv (2 ^ min b.toNat k.bits))) else none
    | _ => if k = k' then aInt op k a b else none
  | .string a, .string b => aStr op a b
  | .float _ _, _ => none
  | .complex _ _ _, _ => none
  | x, y => aCompare P op t cx x y
def aUn (op : UnOp) (x : Value) : Option Value :=
  match op, x with
  | .neg, .int k n => some (.int k (k.wrap (0 - n)))
  | .xor, .int k n => some (.int k (k.wrap ((BitVec.ofInt k.bits (if k.signed then -1 else k.max) ^^^ BitVec.ofInt k.bits n).toNat : Nat)))
  | .not, .bool b => some (.bool !b)
  | _, _ => none
def aBound (len cap : Nat) (lo hi : Option Value) : Option (Nat × Nat) :=
  match hi with
  | none => match lo with
    | none => some (0, len)
    | some (.int _ l) => if 0 ≤ l ∧ l ≤ len then some (l.toNat, len) else none
    | _ => none
  | some (.int _ h) => if 0 ≤ h ∧ h ≤ cap then match lo with
      | none => some (0, h.toNat)
      | some (.int _ l) => if 0 ≤ l ∧ l ≤ h then some (l.toNat, h.toNat) else none
      | _ => none
    else none
  | _ => none
def aSlice (P : Program) (m : Mem) (t : TypeId) (x : Value) (lo hi : Option Value) : Option Value :=
  match P.underlying t with
  | some .string => match x with
    | .string s => match aBound (bsize s) (bsize s) lo hi with
      | some (l, h) => some (.string (bsub s l h))
      | none => none
    | _ => none
  | some (.slice e) => match P.info? e with
    | none => none
    | some i => match x with
      | .slice none 0 0 => match aBound 0 0 lo hi with
        | some _ => some (.slice none 0 0)
        | none => none
      | .slice (some ⟨b, o, none⟩) len cap => match aBound len cap lo hi with
        | some (l, h) => match m.get b with
          | some (.cells _ s _) => if s = i.size then some (.slice (some ⟨b, o + l * i.size, none⟩) (h - l) (cap - l)) else none
          | _ => none
        | none => none
      | _ => none
  | some (.array n e) => match P.info? e with
    | none => none
    | some i => match x with
      | .pointer (some ⟨b, o, none⟩) => match aBound n n lo hi with
        | some (l, h) => if l < n then some (.slice (some ⟨b, o + l * i.size, none⟩) (h - l) (n - l)) else none
        | none => none
      | _ => none
  | _ => none
def aFieldAddr (P : Program) (s : TypeId) (x : Value) (f : Nat) : Option Value :=
  match P.underlying s with
  | some (.struct fs) => match fs.toList[f]? with
    | some fd => match P.info? fd.type with
      | some i => if i.size = 0 then none else match x with
        | .pointer (some ⟨b, o, none⟩) => some (.pointer (some ⟨b, o + fd.offset, none⟩))
        | _ => none
      | none => none
    | none => none
  | _ => none
def aIndexAddr (P : Program) (t : TypeId) (x ix : Value) : Option Value :=
  match ix with
  | .int _ i => match P.underlying t with
    | some (.array n e) => match P.info? e with
      | some inf => match x with
        | .pointer (some ⟨b, o, none⟩) => if 0 ≤ i ∧ i < n then some (.pointer (some ⟨b, o + i.toNat * inf.size, none⟩)) else none
        | _ => none
      | none => none
    | some (.slice e) => match P.info? e with
      | some inf => match x with
        | .slice (some ⟨b, o, none⟩) n _ => if 0 ≤ i ∧ i < n then some (.pointer (some ⟨b, o + i.toNat * inf.size, none⟩)) else none
        | _ => none
      | none => none
    | _ => none
  | _ => none
def aIndex (P : Program) (t : TypeId) (x ix : Value) : Option Value :=
  match ix with
  | .int _ i => match P.underlying t with
    | some (.array n e) => match P.info? e with
      | some inf => match x with
        | .agg cs => if 0 ≤ i ∧ i < n then aPart P e cs.toList (i.toNat * inf.size) else none
        | _ => none
      | none => none
    | some .string => match x with
      | .string s => if 0 ≤ i then match s.data.toList[i.toNat]? with
          | some b => some (.int .u8 b.toNat)
          | none => none
        else none
      | _ => none
    | _ => none
  | _ => none
def aLen (P : Program) (t : TypeId) (x : Value) : Option Value :=
  match P.underlying t with
  | some .string => match x with | .string s => some (.int .i64 (bsize s)) | _ => none
  | some (.array n _) => some (.int .i64 n)
  | some (.slice _) => match x with | .slice _ n _ => some (.int .i64 n) | _ => none
  | _ => none
def aMin2 (b : Bool) : Value → Value → Option Value
  | .int k x, .int _ y => some (.int k (if (if b then y < x else y > x) then y else x))
  | _, _ => none
section run
variable {P : Program} {n : Nat → Prop} {ι : Nat → Loc}
theorem run_sizeOf' {t : TypeId} {i : TypeInfo} (h : P.info? t = some i) (w : World) : (sizeOf t).run P w = .ok i.size w := by simp [sizeOf, typeInfo, h]
theorem aInt_run {op : BinOp} {k : IntKind} {a b : Int} {v : Value} (h : aInt op k a b = some v) (t : TypeId) (w : World) : (binOp op t (.int k a) (.int k b)).run P w = .ok v w := by
  cases op <;> simp only [aInt] at h <;> first | (simp at h; done) | skip
  case quo => split at h <;> simp at h; subst h; rename_i hb; simp [binOp, Op.intDiv, hb]
  case rem => split at h <;> simp at h; subst h; rename_i hb; simp [binOp, Op.intDiv, hb]
  all_goals
    simp only [Option.some.injEq] at h
    subst h
    simp [binOp, Op.intArith, Op.intBits, Op.intCmp]
theorem aStr_run {op : BinOp} {a b : ByteArray} {v : Value} (h : aStr op a b = some v) (t : TypeId) (w : World) : (binOp op t (.string a) (.string b)).run P w = .ok v w := by
  cases op <;> simp only [aStr] at h <;> first | (simp at h; done) | skip
  case add =>
    split at h <;> simp at h
    subst h
    rename_i hb
    rw [bsize_eq, bsize_eq] at hb
    have : ¬ ((a.size + b.size : Nat) : Int) > IntKind.i64.max := by
      have e : IntKind.i64.max = 9223372036854775807 := rfl
      rw [e]; omega
    simp only [binOp, Op.stringOp, this, if_false, bcat_eq]
    rfl
  all_goals
    simp only [Option.some.injEq] at h
    subst h
    simp only [binOp, Op.stringOp, beqB_eq, ByteArray.toList_eq]
    rfl
theorem part_run {t : TypeId} {cs : Array Value} {off : Nat} {v : Value} (h : aPart P t cs.toList off = some v) (w : World) : (part t cs off).run P w = .ok v w := by
  unfold aPart at h
  cases hu : P.underlying t with
  | none => rw [hu] at h; cases h
  | some d =>
    rw [hu] at h
    simp only at h
    have hag : (isAgg t).run P w = .ok d.isRow w := by
      simp only [isAgg, Sem.run_bind, run_underlying hu w, Result.andThen_ok]
      cases d <;> rfl
    split at h
    · rename_i hr
      cases hi : P.info? t with
      | none => rw [hi] at h; cases h
      | some i =>
        rw [hi] at h
        simp only [Option.some.injEq] at h
        subst h
        simp only [part, Sem.run_bind, hag, hr, Result.andThen_ok, if_true, run_sizeOf' hi, Sem.run_pure]
        congr 2
        apply Array.ext'
        simp [List.extract_eq_take_drop]
    · rename_i hr
      have hr' : d.isRow = false := by simpa using hr
      simp only [Array.getElem?_toList] at h
      simp [part, hag, hr', h]
theorem part_rel {t : TypeId} {cs ds : List Value} {off : Nat} {v : Value} (hr : VRels n ι cs ds) (h : aPart P t cs off = some v) : ∃ u, aPart P t ds off = some u ∧ VRel n ι v u := by
  unfold aPart at h ⊢
  cases hu : P.underlying t with
  | none => rw [hu] at h; cases h
  | some d =>
    rw [hu] at h
    simp only at h ⊢
    split
    · rename_i hrow
      rw [if_pos hrow] at h
      cases hi : P.info? t with
      | none => rw [hi] at h; cases h
      | some i =>
        rw [hi] at h
        simp only [Option.some.injEq] at h ⊢
        subst h
        exact ⟨_, rfl, .aggs (by simpa using (hr.drop off).take i.size)⟩
    · rename_i hrow
      rw [if_neg hrow] at h
      exact hr.get h
end run
end Go.Proofs.YtfdijpacbhomjaaGreatDoor.Abs
namespace Go.Proofs.YtfdijpacbhomjaaGreatDoor.Abs
open Go
section run
variable {P : Program} {n : Nat → Prop} {ι : Nat → Loc}
theorem aUn_run {op : UnOp} {x v : Value} (h : aUn op x = some v) {x' : Value} (hx : VRel n ι x x') : ∃ v', (∀ w, (Op.unary op x').run P w = .ok v' w) ∧ VRel n ι v v' := by
  cases op <;> cases x <;> simp only [aUn] at h <;> first | (cases h; done) | skip
  all_goals
    cases hx
    have h := Option.some.inj h
    subst h
    refine ⟨_, fun w => ?_, by constructor⟩
    simp [Op.unary, Op.intArith, Op.intBits]
theorem Addr_add (b o k : Nat) : (⟨b, o, none⟩ : Addr).add k = ⟨b, o + k, none⟩ := by unfold Addr.add; split <;> simp_all
theorem aFieldAddr_run {s : TypeId} {x v : Value} {f : Nat} (h : aFieldAddr P s x f = some v) {x' : Value} (hx : VRel n ι x x') : ∃ v', (∀ w, (Instr.fieldAt s x' f).run P w = .ok v' w) ∧ VRel n ι v v' := by
  unfold aFieldAddr at h
  split at h <;> first | (cases h; done) | skip
  rename_i fs hu
  split at h <;> first | (cases h; done) | skip
  rename_i fd hf
  split at h <;> first | (cases h; done) | skip
  rename_i i hi
  split at h <;> first | (cases h; done) | skip
  rename_i hz
  split at h <;> first | (cases h; done) | skip
  rename_i b o
  have h := Option.some.inj h
  subst h
  cases hx
  rename_i hb
  refine ⟨.pointer (some ⟨(ι b).blk, (ι b).base + (o + fd.offset), none⟩), fun w => ?_, .ptr b (o + fd.offset) hb⟩
  have hf' : fs[f]? = some fd := by simpa using hf
  simp [Instr.fieldAt, run_underlying hu, hf', Instr.sureAddr, fieldPlace, run_sizeOf' hi, hz, Addr_add, Nat.add_assoc]
theorem aIndexAddr_run {t : TypeId} {x ix v : Value} (h : aIndexAddr P t x ix = some v) {x' ix' : Value} (hx : VRel n ι x x') (hix : VRel n ι ix ix') : ∃ v', (∀ w, (Instr.indexAt t x' ix').run P w = .ok v' w) ∧ VRel n ι v v' := by
  unfold aIndexAddr at h
  split at h <;> first | (cases h; done) | skip
  rename_i k i
  cases hix
  split at h <;> first | (cases h; done) | skip
  · rename_i N e hu
    split at h <;> first | (cases h; done) | skip
    rename_i inf hi
    split at h <;> first | (cases h; done) | skip
    rename_i b o
    split at h <;> first | (cases h; done) | skip
    rename_i hlt
    have h := Option.some.inj h
    subst h
    cases hx
    rename_i hb
    refine ⟨.pointer (some ⟨(ι b).blk, (ι b).base + (o + i.toNat * inf.size), none⟩), fun w => ?_, .ptr b (o + i.toNat * inf.size) hb⟩
    simp [Instr.indexAt, asIntOf, run_underlying hu, Instr.sureAddr, hlt, run_sizeOf' hi, Addr_add, Nat.add_assoc]
  · rename_i e hu
    split at h <;> first | (cases h; done) | skip
    rename_i inf hi
    split at h <;> first | (cases h; done) | skip
    rename_i b o N c
    split at h <;> first | (cases h; done) | skip
    rename_i hlt
    have h := Option.some.inj h
    subst h
    cases hx
    · rename_i cap' hb hl hc
      refine ⟨.pointer (some ⟨(ι b).blk, (ι b).base + (o + i.toNat * inf.size), none⟩), fun w => ?_, .ptr b (o + i.toNat * inf.size) hb⟩
      simp [Instr.indexAt, asIntOf, run_underlying hu, hlt, run_sizeOf' hi, Addr_add, Nat.add_assoc]
    · exfalso; omega
theorem aIndex_run {t : TypeId} {x ix v : Value} (h : aIndex P t x ix = some v) {x' ix' : Value} (hx : VRel n ι x x') (hix : VRel n ι ix ix') : ∃ v', (∀ w, (Instr.index t x' ix').run P w = .ok v' w) ∧ VRel n ι v v' := by
  unfold aIndex at h
  split at h <;> first | (cases h; done) | skip
  rename_i k i
  cases hix
  split at h <;> first | (cases h; done) | skip
  · rename_i N e hu
    split at h <;> first | (cases h; done) | skip
    rename_i inf hi
    split at h <;> first | (cases h; done) | skip
    rename_i cs
    split at h <;> first | (cases h; done) | skip
    rename_i hlt
    obtain ⟨us, rfl, hxs⟩ := hx.agg_inv
    obtain ⟨u, hu1, hu2⟩ := part_rel hxs h
    exact ⟨u, fun w => by simp [Instr.index, asIntOf, run_underlying hu, hlt, run_sizeOf' hi, part_run hu1], hu2⟩
  · rename_i hu
    split at h <;> first | (cases h; done) | skip
    rename_i s
    split at h <;> first | (cases h; done) | skip
    rename_i h0
    split at h <;> first | (cases h; done) | skip
    rename_i b hb
    have h := Option.some.inj h
    subst h
    cases hx
    have hb' : s[i.toNat]? = some b := by
      have h1 := List.getElem?_eq_some_iff.1 hb
      obtain ⟨hl, he⟩ := h1
      have hl' : i.toNat < s.size := by simpa using hl
      rw [getElem?_pos s i.toNat hl']
      congr 1
    exact ⟨_, fun w => by simp [Instr.index, asIntOf, run_underlying hu, h0, hb'], .int _ _⟩
theorem aExtract_run {cs : Array Value} {i : Nat} {v : Value} (h : cs.toList[i]? = some v) {x' : Value} (hx : VRel n ι (.tuple cs) x') : ∃ v', (∀ w, (Instr.extract x' i).run P w = .ok v' w) ∧ VRel n ι v v' := by
  obtain ⟨us, rfl, hxs⟩ := hx.tuple_inv
  obtain ⟨u, hu1, hu2⟩ := hxs.get h
  have hu1' : us[i]? = some u := by simpa using hu1
  exact ⟨u, fun w => by simp [Instr.extract, hu1'], hu2⟩
theorem aField_run {t : TypeId} {fs : Array Field} {f : Nat} {fd : Field} {cs : Array Value} {v : Value} (hu : P.underlying t = some (.struct fs)) (hf : fs.toList[f]? = some fd) (h : aPart P fd.type cs.toList fd.offset = some v) {x' : Value} (hx : VRel n ι (.agg cs) x') :
    ∃ v', (∀ w, (Instr.field t x' f).run P w = .ok v' w) ∧ VRel n ι v v' := by
  obtain ⟨us, rfl, hxs⟩ := hx.agg_inv
  obtain ⟨u, hu1, hu2⟩ := part_rel hxs h
  have hf' : fs[f]? = some fd := by simpa using hf
  exact ⟨u, fun w => by simp [Instr.field, run_underlying hu, hf', asAgg, part_run hu1], hu2⟩
theorem aLen_run {t ty : TypeId} {x v : Value} (h : aLen P t x = some v) {x' : Value} (hx : VRel n ι x x') : ∃ v', (∀ w, (Builtin.len_ #[t] ty #[x']).run P w = .ok v' w) ∧ VRel n ι v v' := by
  unfold aLen at h
  split at h <;> first | (cases h; done) | skip
  · rename_i hu
    split at h <;> first | (cases h; done) | skip
    cases hx
    have h := Option.some.inj h
    subst h
    exact ⟨_, fun w => by simp [Builtin.len_, run_underlying hu, goInt, bsize_eq], .int _ _⟩
  · rename_i N e hu
    have h := Option.some.inj h
    subst h
    exact ⟨_, fun w => by simp [Builtin.len_, run_underlying hu, goInt], .int _ _⟩
  · rename_i e hu
    split at h <;> first | (cases h; done) | skip
    have h := Option.some.inj h
    subst h
    cases hx <;> exact ⟨_, fun w => by simp [Builtin.len_, run_underlying hu, goInt], .int _ _⟩
theorem aMin2_run {b : Bool} {x y v : Value} (h : aMin2 b x y = some v) {x' y' : Value} (hx : VRel n ι x x') (hy : VRel n ι y y') : (∀ w, (if b then Builtin.min2 x' y' else Builtin.max2 x' y').run P w = .ok v w) ∧ VRel n ι v v := by
  cases x <;> cases y <;> simp only [aMin2] at h <;> first | (cases h; done) | skip
  cases hx; cases hy
  have h := Option.some.inj h
  subst h
  cases b <;> exact ⟨fun w => by simp [Builtin.min2, Builtin.max2], .int _ _⟩
theorem aBound_run {isS : Bool} {len cap cap' l h : Nat} {lo hi : Option Value} (hb : aBound len cap lo hi = some (l, h)) (hl : len ≤ cap) (hc : cap ≤ cap') {lo' hi' : Option Value}
    (hlo : lo' = lo) (hhi : hi' = hi) : (∀ w, (Instr.sliceBounds isS len cap' lo' hi' none).run P w = .ok (l, h, cap') w) ∧ l ≤ h ∧ h ≤ cap := by
  subst hlo; subst hhi
  unfold aBound at hb
  split at hb
  · split at hb <;> first | (cases hb; done) | skip
    · cases hb
      exact ⟨fun w => by simp [Instr.sliceBounds], by omega, hl⟩
    · rename_i k i
      split at hb <;> first | (cases hb; done) | skip
      rename_i h0
      cases hb
      exact ⟨fun w => by simp [Instr.sliceBounds, Instr.sliceBound, asIntOf, h0], by omega, hl⟩
  · rename_i k i
    split at hb <;> first | (cases hb; done) | skip
    rename_i h0
    have e : 0 ≤ i ∧ i ≤ (cap' : Int) := ⟨h0.1, by omega⟩
    split at hb <;> first | (cases hb; done) | skip
    · cases hb
      exact ⟨fun w => by cases isS <;> simp [Instr.sliceBounds, Instr.sliceBound, asIntOf, e], by omega, by omega⟩
    · rename_i k2 i2
      split at hb <;> first | (cases hb; done) | skip
      rename_i h2
      cases hb
      have e2 : (i.toNat : Int) = i := Int.toNat_of_nonneg h0.1
      exact ⟨fun w => by cases isS <;> simp [Instr.sliceBounds, Instr.sliceBound, asIntOf, e, h2, e2], by omega, by omega⟩
  · cases hb
theorem int_rel_eq {x x' : Value} (h : VRel n ι x x') (hi : ∃ k i, x = .int k i) : x' = x := by
  obtain ⟨k, i, rfl⟩ := hi
  cases h; rfl
theorem aBound_ints {len cap : Nat} {lo hi : Option Value} {r : Nat × Nat} (hb : aBound len cap lo hi = some r) : (∀ x, lo = some x → ∃ k i, x = .int k i) ∧ (∀ x, hi = some x → ∃ k i, x = .int k i) := by
  unfold aBound at hb
  split at hb
  · split at hb <;> first | (cases hb; done) | skip
    · exact ⟨fun x hx => (by cases hx), fun x hx => (by cases hx)⟩
    · exact ⟨fun x hx => by cases hx; exact ⟨_, _, rfl⟩, fun x hx => (by cases hx)⟩
  · split at hb <;> first | (cases hb; done) | skip
    split at hb <;> first | (cases hb; done) | skip
    · exact ⟨fun x hx => (by cases hx), fun x hx => by cases hx; exact ⟨_, _, rfl⟩⟩
    · exact ⟨fun x hx => by cases hx; exact ⟨_, _, rfl⟩, fun x hx => by cases hx; exact ⟨_, _, rfl⟩⟩
  · cases hb
def ORel (n : Nat → Prop) (ι : Nat → Loc) : Option Value → Option Value → Prop
  | none, none => True
  | some x, some y => VRel n ι x y
  | _, _ => False
theorem ORel.ints {x x' : Option Value} (h : ORel n ι x x') (hi : ∀ y, x = some y → ∃ k i, y = .int k i) : x' = x := by
  cases x <;> cases x' <;> first | rfl | exact h.elim | skip
  rw [int_rel_eq h (hi _ rfl)]
theorem aSlice_run {m : Mem} (hm0 : ∀ b ro s cs, m.get b = some (.cells ro s cs) → (ι b).stride = s) {t : TypeId} {x v : Value} {lo hi : Option Value} (h : aSlice P m t x lo hi = some v) {x' : Value} {lo' hi' : Option Value} (hx : VRel n ι x x') (hlo : ORel n ι lo lo') (hhi : ORel n ι hi hi') :
    ∃ v', (∀ w, (Instr.sliceAt t x' lo' hi' none).run P w = .ok v' w) ∧ VRel n ι v v' := by
  unfold aSlice at h
  split at h <;> first | (cases h; done) | skip
  · rename_i hu
    split at h <;> first | (cases h; done) | skip
    rename_i s
    split at h <;> first | (cases h; done) | skip
    rename_i l hh hb
    cases hx
    have h := Option.some.inj h
    subst h
    have hi1 := aBound_ints hb
    have hr := (aBound_run (P := P) (isS := false) (cap' := s.size) hb (Nat.le_refl _) (by rw [bsize_eq]; exact Nat.le_refl _) (hlo.ints hi1.1) (hhi.ints hi1.2)).1
    rw [bsize_eq] at hr
    refine ⟨.string (s.extract l hh), fun w => ?_, by rw [bsub_eq]; exact .string _⟩
    simp [Instr.sliceAt, Instr.slice, run_underlying hu, hr]
  · rename_i e hu
    split at h <;> first | (cases h; done) | skip
    rename_i i hi0
    split at h <;> first | (cases h; done) | skip
    · split at h <;> first | (cases h; done) | skip
      rename_i r hb
      obtain ⟨l, hh⟩ := r
      have hi1 := aBound_ints hb
      cases hx
      have hr := aBound_run (P := P) (isS := true) (cap' := 0) hb (Nat.le_refl _) (Nat.le_refl _) (hlo.ints hi1.1) (hhi.ints hi1.2)
      obtain ⟨hr, h1, h2⟩ := hr
      have e1 : hh = 0 := by omega
      have e2 : l = 0 := by omega
      subst e1; subst e2
      have h := Option.some.inj h
      subst h
      exact ⟨.slice none 0 0, fun w => by simp [Instr.sliceAt, Instr.slice, run_underlying hu, hr, run_sizeOf' hi0], .nilSlice⟩
    · rename_i b o len cap
      split at h <;> first | (cases h; done) | skip
      rename_i l hh hb
      split at h <;> first | (cases h; done) | skip
      rename_i ro s cs hg
      split at h <;> first | (cases h; done) | skip
      rename_i hs
      have hst : (ι b).stride = i.size := (hm0 b ro s cs hg).trans hs
      have hi1 := aBound_ints hb
      have h := Option.some.inj h
      subst h
      cases hx with
      | slice _ _ _ _ cap' hlt hl hc =>
        have hcc : cap ≤ cap' := by rcases hc with hc | hc <;> omega
        obtain ⟨hr, h1, h2⟩ := aBound_run (P := P) (isS := true) (cap' := cap') hb hl hcc (hlo.ints hi1.1) (hhi.ints hi1.2)
        by_cases hm : cap' = l
        · have e1 : hh = l := by omega
          have e2 : cap = l := by omega
          subst e1
          subst e2
          subst hm
          refine ⟨.slice (some ⟨(ι b).blk, (ι b).base + o, none⟩) 0 0, fun w => ?_, ?_⟩
          · simp [Instr.sliceAt, Instr.slice, run_underlying hu, hr, run_sizeOf' hi0]
          · rw [Nat.sub_self]; exact .empty b _ _ hlt
        · refine ⟨.slice (some ⟨(ι b).blk, (ι b).base + (o + l * i.size), none⟩) (hh - l) (cap' - l), fun w => ?_, ?_⟩
          · simp [Instr.sliceAt, Instr.slice, run_underlying hu, hr, run_sizeOf' hi0, hm, Addr_add, Nat.add_assoc]
          · refine .slice b _ _ _ _ hlt (by omega) ?_
            rcases hc with hc | ⟨hc, hs, hmx⟩
            · left; omega
            · right
              refine ⟨by omega, ?_, by omega⟩
              rw [hst] at hs ⊢
              have e : cap' * i.size = l * i.size + (cap' - l) * i.size := by rw [← Nat.add_mul]; congr 1; omega
              omega
      | empty _ _ o' hlt =>
        have hr := aBound_run (P := P) (isS := true) (cap' := 0) hb (Nat.le_refl _) (Nat.le_refl _) (hlo.ints hi1.1) (hhi.ints hi1.2)
        obtain ⟨hr, h1, h2⟩ := hr
        have e1 : hh = 0 := by omega
        have e2 : l = 0 := by omega
        subst e1; subst e2
        exact ⟨.slice (some o') 0 0, fun w => by simp [Instr.sliceAt, Instr.slice, run_underlying hu, hr, run_sizeOf' hi0], .empty b _ o' hlt⟩
  · rename_i N e hu
    split at h <;> first | (cases h; done) | skip
    rename_i i hi0
    split at h <;> first | (cases h; done) | skip
    rename_i b o
    split at h <;> first | (cases h; done) | skip
    rename_i l hh hb
    split at h <;> first | (cases h; done) | skip
    rename_i hlt
    have hi1 := aBound_ints hb
    have h := Option.some.inj h
    subst h
    cases hx
    rename_i hbn
    obtain ⟨hr, h1, h2⟩ := aBound_run (P := P) (isS := false) (cap' := N) hb (Nat.le_refl _) (Nat.le_refl _) (hlo.ints hi1.1) (hhi.ints hi1.2)
    have hm : ¬ N = l := by omega
    refine ⟨.slice (some ⟨(ι b).blk, (ι b).base + (o + l * i.size), none⟩) (hh - l) (N - l), fun w => ?_, .slice b _ _ _ _ hbn (by omega) (.inl rfl)⟩
    simp [Instr.sliceAt, Instr.sureAddr, run_underlying hu, hr, run_sizeOf' hi0, hm, Addr_add, Nat.add_assoc]
end run
end Go.Proofs.YtfdijpacbhomjaaGreatDoor.Abs
