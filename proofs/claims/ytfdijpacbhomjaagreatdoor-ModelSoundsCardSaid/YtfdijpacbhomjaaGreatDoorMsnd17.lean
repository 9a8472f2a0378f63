/-
  The walk of path.Check: a range over a function of its own that keeps the rest of the path in a cell. Over worlds.
  The library's repeat and trim: those of disks.
  Chapter 13's example: what the library's functions answer.
  Chapter 19's example: its stream, its chunk, and that turned.
  The library's functions over texts, for the machine as a function.
  Disk.Sync, with the memory behind it told exactly (for the machine as a function): the range's iterator is forgotten.
  Disk.Sync, for the machine as a function.
  mac.Tag's contract, for the abstract machine.
  Sums and tags, reckoned fast by the kernel: each number is a literal at once.
  Tags and leaves, for the machine as a function.
  The keys of the examples' secret, reckoned.
  merkle's leaves, nodes and roots; an archive's root.
  Keys, leaves, tags, disks, epochs: callers for the machine as a function, put together.
  Chapter 32's example: its salt, its keys, its block.
  Chapter 32's example: world.Salt, carried out by the kernel.
  Chapter 32's example: chacha.XOR, carried out by the kernel.
  Chapter 19's example: flate.Simple, carried out by the kernel.
  Chapter 19's example: flate.Rich, carried out by the kernel.
  Chapter 32's example: the callers.
  Chapter 33's example comes out true.
-/
import Derived.RangeFuncNested
import Derived.RangeFuncBound
import Derived.RangeFuncBox
import Derived.RangeFuncRecord
import Derived.RangeFuncCalls
import Derived.RangeFuncLeaves
import Derived.Shelf.Abstract
import Derived.Shelf.RegionOpen
import Derived.WalkKit
import Derived.OwnWalkIn
import Derived.TacticsInMore
import Derived.LoopNIn
import Derived.LoopIn
import Derived.Test.YtfdijpacbhomjaaGreatDoorMsnd16
import Derived.Test.YtfdijpacbhomjaaGreatDoorMsnd10
import Derived.Test.YtfdijpacbhomjaaGreatDoorChecked
import Derived.Test.YtfdijpacbhomjaaGreatDoorMsnd11
import Derived.Test.YtfdijpacbhomjaaGreatDoorMsnd01
import Derived.Test.YtfdijpacbhomjaaGreatDoorMsnd09
import Derived.Test.YtfdijpacbhomjaaGreatDoorMsnd07
import Derived.Test.YtfdijpacbhomjaaGreatDoorMsnd03
import Derived.KernelRfl
import Derived.Test.YtfdijpacbhomjaaGreatDoorMsnd15
import Derived.Test.YtfdijpacbhomjaaGreatDoorMsnd13
set_option linter.all false
namespace Go.Proofs.YtfdijpacbhomjaaGreatDoor
open Go Go.RowKit Go.Shelf
attribute [local go_sem] Oper.semAt_some
set_option maxRecDepth 100000 in
set_option maxHeartbeats 1000000 in
theorem parts_in (F : Fence) (n : Nat) (hf : F.fn 304) (hro : F.round = none) (s : ByteArray) (w : World) :
    CallsIn F n Tryz.prog 304 #[.string s] w fun e w' => e = .returned (.func (.func 334) #[] #[.pointer (some ⟨w.heap.size, 0, none⟩)]) ∧ w' = w.alloc (.cells #[.string s] 9) := by
  refine callsIn_of_wp Tryz.func304 rfl hf ?_ hro
  simp only [Tryz.ntmps304, List.size_toArray, List.length_cons, List.length_nil, Nat.reduceAdd, Nat.reduceSub, Array.replicate_succ, Array.replicate_zero, List.push_toArray, List.append_toArray, List.nil_append, List.cons_append]
  gi_wp2
  go_ret
  exact ⟨rfl, rfl⟩
theorem toList_str (x : List UInt8) : (str x).toList = x := Lib.toList_data _
def badP (x : List UInt8) : Bool := decide (x = []) || decide (x = [46]) || decide (x = [46, 46])
theorem cut1_split (r : List UInt8) : (∃ a b, r = a ++ 47 :: b ∧ cut1 47 r [] = (a, b, true) ∧ pieces 47 r [] = a :: pieces 47 b []) ∨ (cut1 47 r [] = (r, [], false) ∧ pieces 47 r [] = [r]) := by
  rcases index_miss r 47 with h | ⟨a, b, h1, h2, _⟩
  · have hn := index_not r 47 h
    exact .inr ⟨by rw [cut1_not 47 r _ hn]; rfl, by rw [pieces_not 47 r _ hn]; rfl⟩
  · refine .inl ⟨a, b, h1, ?_, ?_⟩
    · rw [h1, cut1_at 47 a b _ h2]; rfl
    · rw [h1, pieces_at 47 a b _ h2]; rfl
def boxLen (B : Nat) (W : World) : Nat := match W.cell? ⟨B, 0, none⟩ with
  | some (.string s) => s.size
  | _ => 0
theorem boxLen_eq {B : Nat} {W : World} {r : List UInt8} (h : W.cell? ⟨B, 0, none⟩ = some (.string (str r))) : boxLen B W = r.length := by
  unfold boxLen; rw [h]; exact str_size r
set_option maxRecDepth 100000 in
set_option maxHeartbeats 2000000 in
theorem iter_in (n : Nat) (l B : Nat) (k : Int) (J J2 : List UInt8 → World → Prop) (Jx : World → Prop)
    (hJb : ∀ r W, J r W → W.cell? ⟨B, 0, none⟩ = some (.string (str r)) ∧ W.cell? ⟨0, 0, none⟩ = some (.int .i64 k) ∧ r.length ≤ 1000000)
    (hJ2b : ∀ r W, J2 r W → W.cell? ⟨B, 0, none⟩ = some (.string (str r)) ∧ W.frozen? ⟨B, 0, none⟩ = false)
    (hJd : ∀ r W d, J r W → J r (W.drewN d))
    (hJs : ∀ r a b W, J2 r W → badP a = false → r = a ++ 47 :: b → cut1 47 r [] = (a, b, true) → J b (W.setCell ⟨B, 0, none⟩ (.string (str b))))
    (hY : ∀ r W, J r W → YieldAt Fence.wide (n - 1) Tryz.prog l #[.string (str (cut1 47 r []).1)] W fun e W' => (e = .returned (.bool true) ∧ badP (cut1 47 r []).1 = false ∧ J2 r W') ∨ (e = .returned (.bool false) ∧ Jx W'))
    (s : List UInt8) (w : World) (h0 : J s w) :
    CallsIn Fence.wide n Tryz.prog 334 #[.func (.yield l) #[] #[], .pointer (some ⟨B, 0, none⟩)] w fun e W => (∃ v, e = .returned v) ∧ ((∃ r, cut1 47 r [] = (r, [], false) ∧ badP r = false ∧ J2 r W) ∨ Jx W) := by
  refine callsIn_of_wp Tryz.func334 rfl trivial ?_ rfl
  simp only [Tryz.ntmps334, List.size_toArray, List.length_cons, List.length_nil, Nat.reduceAdd, Nat.reduceSub, Array.replicate_succ, Array.replicate_zero, List.push_toArray, List.append_toArray, List.nil_append, List.cons_append]
  gi_wp2
  gi_loopw [3] (fun _ wr => ∃ r, J r wr) (fun _ wr => boxLen B wr)
  case atStart => exact ⟨s, h0⟩
  case round =>
    obtain ⟨r, hJ⟩ := hrel
    obtain ⟨hb, hk, hr⟩ := hJb r wr hJ
    have hcut := Tryz.strings_Cut (str r) ⟨#[47]⟩ k wr (by rw [str_size]; omega) hk
    have e1 : Lib.cut (str r).data.toList (⟨#[47]⟩ : ByteArray).data.toList = cut1 47 r [] := cut_eq r 47
    rw [e1] at hcut
    have hlen := boxLen_eq hb
    have hY1 := hY r
    obtain ⟨x, y, ok, hc⟩ : ∃ x y ok, cut1 47 r [] = (x, y, ok) := ⟨_, _, _, rfl⟩
    rw [hc] at hcut hY1
    simp only at hcut hY1
    replace hcut : Calls Tryz.prog 335 #[.string (str r), .string ⟨#[47]⟩] wr fun e w' => e = .returned (.tuple #[.string (str x), .string (str y), .bool ok]) ∧ ∃ d, w' = wr.drewN d := hcut
    have arm : ∀ {P : Prop}, P → Fence.wide.fn 335 ∧ (Fence.wide.depth.isSome = true → 1 ≤ n) ∧ P := fun h => ⟨trivial, (fun h => by cases h), h⟩
    have hYd := fun d => hY1 _ (hJd _ _ d hJ)
    clear hY1
    cases ok
    · gi_wp2_with (first
        | (refine arm ?_; refine (callsIn_wide.2 hcut).mono ?_; rintro e w1 ⟨rfl, d, rfl⟩; obtain ⟨fn, tmps, assign, body, hy, hR⟩ := hYd d))
      refine ⟨(fun h => by cases h), ?_⟩
      refine hR.mono ?_
      rintro e W3 (⟨rfl, hg, hJ3⟩ | ⟨rfl, hJx⟩)
      · gi_wp2
        refine bodyPost_ret (results_none rfl _ _ _) rfl ?_
        refine ⟨⟨_, rfl⟩, .inl ⟨r, ?_, ?_, hJ3⟩⟩
        · rcases cut1_split r with ⟨a, b, _, h, _⟩ | ⟨h, _⟩
          · rw [hc] at h; cases h
          · exact h
        · rcases cut1_split r with ⟨a, b, _, h, _⟩ | ⟨h, _⟩
          · rw [hc] at h; cases h
          · rw [hc] at h; cases h; exact hg
      · gi_wp2
        refine bodyPost_ret (results_none rfl _ _ _) rfl ?_
        exact ⟨⟨_, rfl⟩, .inr hJx⟩
    · gi_wp2_with (first
        | (refine arm ?_; refine (callsIn_wide.2 hcut).mono ?_; rintro e w1 ⟨rfl, d, rfl⟩; obtain ⟨fn, tmps, assign, body, hy, hR⟩ := hYd d))
      refine ⟨(fun h => by cases h), ?_⟩
      refine hR.mono ?_
      rintro e W3 (⟨rfl, hg, hJ3⟩ | ⟨rfl, hJx⟩)
      · obtain ⟨hb3, hf3⟩ := hJ2b r W3 hJ3
        gi_wp2
        have hsp : r = x ++ 47 :: y := by
          rcases cut1_split r with ⟨a, b, h1, h, _⟩ | ⟨h, _⟩
          · rw [hc] at h; cases h; exact h1
          · rw [hc] at h; cases h
        have hJ4 := hJs r x y W3 hJ3 hg hsp hc
        go_roundw
        case rel => exact ⟨y, hJ4⟩
        case measure => rw [boxLen_eq (hJb _ _ hJ4).1, hlen, hsp]; simp; omega
      · gi_wp2
        refine bodyPost_ret (results_none rfl _ _ _) rfl ?_
        exact ⟨⟨_, rfl⟩, .inr hJx⟩
theorem pathV_bad {s : List UInt8} (h : s = [] ∨ 4096 < s.length ∨ 0 ∈ s ∨ (pieces 47 s []).any badP = true) : pathV s = 5 := by
  unfold pathV; exact if_pos h
theorem pathV_good {s : List UInt8} (h1 : s ≠ []) (h2 : ¬ 4096 < s.length) (h3 : ¬ 0 ∈ s) (h4 : (pieces 47 s []).any badP = false) : pathV s = 0 := by
  unfold pathV
  refine if_neg ?_
  rintro (h | h | h | h)
  · exact h1 h
  · exact h2 h
  · exact h3 h
  · exact absurd ((show (pieces 47 s []).any badP = true from h).symm.trans h4) (by decide)
theorem has_zero {s : List UInt8} (h : decide (0 ≤ Lib.indexByte (str s).data.toList 0) = true) : 0 ∈ s := by
  rcases index_miss s 0 with h' | ⟨a, b, h1, _, _⟩
  · have := of_decide_eq_true h
    rw [str_data, h'] at this
    exact absurd this (by decide)
  · rw [h1]; simp
theorem zero_has {s : List UInt8} (h : 0 ∈ s) : decide (0 ≤ Lib.indexByte (str s).data.toList 0) = true := by
  rcases index_miss s 0 with h' | ⟨a, b, h1, _, h3⟩
  · exact absurd h (index_not s 0 h')
  · rw [str_data, h3]; exact decide_eq_true (by omega)
structure St (rec : LoopState → Option Code → Loop) (w : World) (st : LoopState) (pe : Option Code) (v : Int) (r : List UInt8) (W : World) : Prop where
  below : Below w.heap.size w W
  ans : W.heap[w.heap.size]? = some (.cells #[.int .i64 v] 28 (0, 0))
  box : W.heap[w.heap.size + 1]? = some (.cells #[.string (str r)] 9 (0, 0))
  dfr : W.heap[w.heap.size + 2]? = some (.deferred (some []))
  loop : W.heap[w.heap.size + 3]? = some (.loop (rec st pe))
section st
variable {rec : LoopState → Option Code → Loop} {w : World} {st : LoopState} {pe : Option Code} {v : Int} {r : List UInt8} {W : World}
theorem St.put (h : St rec w st pe v r W) (st' : LoopState) (pe' : Option Code) : St rec w st' pe' v r (W.putObj (w.heap.size + 3) (.loop (rec st' pe'))) :=
  ⟨h.below.grown (grownBy_putObj' _ _ _) h.below.size (fun k e => by cases e; omega), (World.putObj_heap_other (by omega)).trans h.ans, (World.putObj_heap_other (by omega)).trans h.box,
   (World.putObj_heap_other (by omega)).trans h.dfr, World.putObj_heap_same (Array.getElem?_eq_some_iff.1 h.loop).1⟩
theorem St.setAns (h : St rec w st pe v r W) (v' : Int) : St rec w st pe v' r (W.setCell ⟨w.heap.size, 0, none⟩ (.int .i64 v')) :=
  ⟨h.below.setCell (Nat.le_refl _) _, Boxed.set _ h.ans, (Below.heap_setCell _ _ _ _ (by simp)).trans h.box, (Below.heap_setCell _ _ _ _ (by simp)).trans h.dfr, (Below.heap_setCell _ _ _ _ (by simp)).trans h.loop⟩
theorem St.setBox (h : St rec w st pe v r W) (r' : List UInt8) : St rec w st pe v r' (W.setCell ⟨w.heap.size + 1, 0, none⟩ (.string (str r'))) :=
  ⟨h.below.setCell (Nat.le_succ _) _, (Below.heap_setCell _ _ _ _ (by simp)).trans h.ans, Boxed.set _ h.box, (Below.heap_setCell _ _ _ _ (by simp)).trans h.dfr, (Below.heap_setCell _ _ _ _ (by simp)).trans h.loop⟩
theorem St.drew (h : St rec w st pe v r W) (d : Nat) : St rec w st pe v r (W.drewN d) := ⟨h.below.trans ⟨rfl, rfl, rfl, Nat.le_refl _, fun _ _ => rfl⟩, h.ans, h.box, h.dfr, h.loop⟩
theorem St.ansCell (h : St rec w st pe v r W) : W.cell? ⟨w.heap.size, 0, none⟩ = some (.int .i64 v) := Boxed.cell h.ans
theorem St.ansFree (h : St rec w st pe v r W) : W.frozen? ⟨w.heap.size, 0, none⟩ = false := Boxed.frozen h.ans
theorem St.boxCell (h : St rec w st pe v r W) : W.cell? ⟨w.heap.size + 1, 0, none⟩ = some (.string (str r)) := Boxed.cell h.box
theorem St.boxFree (h : St rec w st pe v r W) : W.frozen? ⟨w.heap.size + 1, 0, none⟩ = false := Boxed.frozen h.box
theorem St.cell0 (h : St rec w st pe v r W) {x : Value} (hk : w.cell? ⟨0, 0, none⟩ = some x) : W.cell? ⟨0, 0, none⟩ = some x := by
  have h0 : 0 < w.heap.size := by
    unfold World.cell? at hk
    cases he : w.heap[0]? with
    | none => simp only [he] at hk; cases hk
    | some o => exact (Array.getElem?_eq_some_iff.1 he).1
  exact (h.below.cell (p := ⟨0, 0, none⟩) h0).trans hk
end st
structure Done (w : World) (v : Int) (W : World) : Prop where
  below : Below w.heap.size w W
  ans : W.heap[w.heap.size]? = some (.cells #[.int .i64 v] 28 (0, 0))
  dfr : W.heap[w.heap.size + 2]? = some (.deferred (some []))
theorem four_heap (w : World) (a b c d : Obj) : ((((w.alloc a).alloc b).alloc c).alloc d).heap[w.heap.size]? = some a ∧ ((((w.alloc a).alloc b).alloc c).alloc d).heap[w.heap.size + 1]? = some b ∧
    ((((w.alloc a).alloc b).alloc c).alloc d).heap[w.heap.size + 2]? = some c ∧ ((((w.alloc a).alloc b).alloc c).alloc d).heap[w.heap.size + 3]? = some d := by
  have z1 : (w.alloc a).heap.size = w.heap.size + 1 := by simp
  have z2 : ((w.alloc a).alloc b).heap.size = w.heap.size + 2 := by simp
  have z3 : (((w.alloc a).alloc b).alloc c).heap.size = w.heap.size + 3 := by simp
  have n1 := World.alloc_heap_new (w.alloc a) b
  have n2 := World.alloc_heap_new ((w.alloc a).alloc b) c
  have n3 := World.alloc_heap_new (((w.alloc a).alloc b).alloc c) d
  rw [z1] at n1; rw [z2] at n2; rw [z3] at n3
  exact ⟨(Below.heap_alloc _ _ _ (by omega)).trans ((Below.heap_alloc _ _ _ (by omega)).trans ((Below.heap_alloc _ _ _ (by omega)).trans (World.alloc_heap_new w a))),
    (Below.heap_alloc _ _ _ (by omega)).trans ((Below.heap_alloc _ _ _ (by omega)).trans n1), (Below.heap_alloc _ _ _ (by omega)).trans n2, n3⟩
theorem range_law (s : List UInt8) (hs : s.length ≤ 1000000) (k : Int) (w : World) (hk : w.cell? ⟨0, 0, none⟩ = some (.int .i64 k)) {g : Operand} {assign body : Code} {Q : Exit → Act → World → Prop} {tm : Array Value}
    (hg : ({ tmps := tm, defers := [] } : Act).eval g = .func (.func 334) #[] #[.pointer (some ⟨w.heap.size + 1, 0, none⟩)]) (a₁ : List UInt8 → Act)
    (hassign : ∀ (l : Nat) (x : List UInt8) (W : World) (K : Act → World → Prop), K (a₁ x) W → assign.wpIn (Fence.wide.inRound l) 3 Tryz.prog (Exit.then K (fun _ _ _ => False)) { tmps := ((#[17] : Array Tmp).zip #[Value.string (str x)]).foldl (fun t (p, v) => t.setIfInBounds p v) tm, defers := [] } W)
    (hbody : ∀ (l : Nat) (x : List UInt8) (W : World), W.cell? ⟨w.heap.size, 0, none⟩ = some (.int .i64 0) → W.frozen? ⟨w.heap.size, 0, none⟩ = false →
      body.wpIn (Fence.wide.inRound l) 3 Tryz.prog (fun e _ W' => (e = .normal ∧ badP x = false ∧ W' = W) ∨ (e = .ret ∧ badP x = true ∧ W' = W.setCell ⟨w.heap.size, 0, none⟩ (.int .i64 5))) (a₁ x) W)
    (hdone : ∀ W, Done w 0 W → (pieces 47 s []).any badP = false → Q .normal { tmps := tm, defers := [{ target := .collected (w.heap.size + 2), args := #[] }] } W)
    (hret : ∀ W, Done w 5 W → (pieces 47 s []).any badP = true → Code.ret.wpIn Fence.wide 5 Tryz.prog Q { tmps := tm, defers := [{ target := .collected (w.heap.size + 2), args := #[] }] } W) :
    (Code.rangeFunc g #[17] assign body).wpIn Fence.wide 5 Tryz.prog Q { tmps := tm, defers := [] } ((w.alloc (.cells #[.int .i64 0] 28)).alloc (.cells #[.string (str s)] 9)) := by
  refine wpIn_rangeFunc ?_
  intro fn _
  obtain ⟨rec, hrec⟩ : ∃ rec : LoopState → Option Code → Loop, rec = fun st pe => { state := st, pending := pe, fn, tmps := tm, params := #[17], assign, body, defers := w.heap.size + 2 } := ⟨_, rfl⟩
  have e1 : ((w.alloc (.cells #[.int .i64 0] 28)).alloc (.cells #[.string (str s)] 9)).heap.size = w.heap.size + 2 := by simp
  obtain ⟨W1, hW1⟩ : ∃ W1, W1 = ((((w.alloc (.cells #[.int .i64 0] 28)).alloc (.cells #[.string (str s)] 9)).alloc (.deferred (some []))).alloc (.loop (rec .ready none))) := ⟨_, rfl⟩
  have hst : St rec w .ready none 0 s W1 := by
    rw [hW1]
    refine ⟨(((((Below.refl _ w).alloc (Nat.le_refl _) _).alloc (by simp) _).alloc (by simp; omega) _).alloc (by simp; omega) _), ?_, ?_, ?_, ?_⟩
    · exact (four_heap w _ _ _ _).1
    · exact (four_heap w _ _ _ _).2.1
    · exact (four_heap w _ _ _ _).2.2.1
    · exact (four_heap w _ _ _ _).2.2.2
  refine ⟨w.heap.size + 3, [{ target := .collected (w.heap.size + 2), args := #[] }], W1, { target := .fn (.func 334) #[.pointer (some ⟨w.heap.size + 1, 0, none⟩)], args := #[.func (.yield (w.heap.size + 3)) #[] #[]] }, W1, 334,
    #[.func (.yield (w.heap.size + 3)) #[] #[], .pointer (some ⟨w.heap.size + 1, 0, none⟩)], W1, ?_, ?_, ?_, ?_, fun _ => by omega, ?_⟩
  · rw [hW1, hrec]
    have := run_enterLoop_outer (P := Tryz.prog) (w := ((w.alloc (.cells #[.int .i64 0] 28)).alloc (.cells #[.string (str s)] 9))) fn tm #[17] assign body
    rw [e1] at this
    exact this
  · simp only [resolve, hg]
    simp [go_sem]
  · intro f' hf'; trivial
  · simp [invoke, go_sem, enters_of Tryz.func334 (by kernel_rfl) rfl]
  · refine (iter_in 4 (w.heap.size + 3) (w.heap.size + 1) k
      (fun r W => St rec w .ready none 0 r W ∧ r.length ≤ s.length ∧ (pieces 47 s []).any badP = (pieces 47 r []).any badP)
      (fun r W => St rec w .ready none 0 r W ∧ r.length ≤ s.length ∧ (pieces 47 s []).any badP = (pieces 47 r []).any badP)
      (fun W => ∃ r, St rec w .done (some .ret) 5 r W ∧ (pieces 47 s []).any badP = true)
      (fun r W h => ⟨h.1.boxCell, h.1.cell0 hk, by have := h.2.1; omega⟩) (fun r W h => ⟨h.1.boxCell, h.1.boxFree⟩) (fun r W d h => ⟨h.1.drew d, h.2⟩) ?_ ?_ s W1 ⟨hst, Nat.le_refl _, rfl⟩).mono ?_
    · rintro r a b W ⟨h1, h2, h3⟩ hg' hr hc
      refine ⟨h1.setBox b, by rw [hr] at h2; simp at h2; omega, ?_⟩
      rw [h3]
      rcases cut1_split r with ⟨a', b', h4, h5, h6⟩ | ⟨h5, _⟩
      · rw [hc] at h5; cases h5
        rw [h6, List.any_cons, hg', Bool.false_or]
      · rw [hc] at h5; cases h5
    · rintro r W ⟨h1, h2, h3⟩
      have hy := run_yield (P := Tryz.prog) (args := #[.string (str (cut1 47 r []).1)]) h1.loop (by rw [hrec]; rfl)
      have hh : (rec .ready none).fn = fn ∧ (rec .ready none).params = #[17] ∧ (rec .ready none).tmps = tm ∧ (rec .ready none).assign = assign ∧ (rec .ready none).body = body := by rw [hrec]; exact ⟨rfl, rfl, rfl, rfl, rfl⟩
      rw [hh.1, hh.2.1, hh.2.2.1, hh.2.2.2.1, hh.2.2.2.2] at hy
      have hbad : badP (cut1 47 r []).1 = true → (pieces 47 s []).any badP = true := fun hb => by
        rw [h3]
        rcases cut1_split r with ⟨a', b', h4, h5, h6⟩ | ⟨h5, h6⟩
        · rw [h5] at hb; rw [h6, List.any_cons, hb]; rfl
        · rw [h5] at hb; rw [h6, List.any_cons, hb]; rfl
      have p2 : ∀ (v : Int) (W3 : World) (st : LoopState) (pe : Option Code) (st' : LoopState) (pe' : Option Code), St rec w st pe v r W3 → ({ rec st pe with state := st', pending := pe' } : Loop) = rec st' pe' := fun v W3 st pe st' pe' _ => by rw [hrec]
      have hbg := run_beginRound (P := Tryz.prog) h1.loop (by rw [hrec])
      have eb : ({ rec .ready none with state := .busy } : Loop) = rec .busy none := by rw [hrec]
      rw [eb] at hbg
      have h1b := h1.put .busy none
      refine ⟨fn, _, assign, body, hy, roundIn_of_wpIn trivial ?_⟩
      refine hassign _ _ W _ ?_
      refine ⟨_, hbg, ?_⟩
      refine wpIn_mono (hbody _ _ _ h1b.ansCell h1b.ansFree) ?_
      rintro e a3 W3 (⟨rfl, hx, rfl⟩ | ⟨rfl, hx, rfl⟩)
      · have he := run_endRound (P := Tryz.prog) none h1b.loop
        have er : ({ rec .busy none with state := if (none : Option Code).isNone then .ready else .done, pending := none } : Loop) = rec .ready none := by rw [hrec]; rfl
        rw [er] at he
        exact ⟨_, _, he, .inl ⟨rfl, hx, h1b.put .ready none, h2, h3⟩⟩
      · have he := run_endRound (P := Tryz.prog) (some .ret) (h1b.setAns 5).loop
        have er : ({ rec .busy none with state := if (some Code.ret).isNone then .ready else .done, pending := some .ret } : Loop) = rec .done (some .ret) := by rw [hrec]; rfl
        rw [er] at he
        exact ⟨_, _, he, .inr ⟨rfl, r, (h1b.setAns 5).put .done (some .ret), hbad hx⟩⟩
    · rintro e W2 ⟨⟨v, rfl⟩, (⟨r, hc, hb, h1, h2, h3⟩ | ⟨r, h1, h3⟩)⟩
      · have he := run_endLoop (P := Tryz.prog) h1.loop (by rw [hrec]; simp)
        have er : ({ rec .ready none with state := .exhausted } : Loop) = rec .exhausted none := by rw [hrec]
        have ep : (rec .ready none).pending = none := by rw [hrec]
        rw [er, ep] at he
        have h4 := h1.put .exhausted none
        refine ⟨none, _, he, hdone _ ⟨h4.below, h4.ans, h4.dfr⟩ ?_⟩
        rcases cut1_split r with ⟨a', b', h4, h5, h6⟩ | ⟨h5, h6⟩
        · rw [hc] at h5; cases h5
        · rw [h3, h6, List.any_cons, hb]; rfl
      · have he := run_endLoop (P := Tryz.prog) h1.loop (by rw [hrec]; simp)
        have er : ({ rec .done (some .ret) with state := .exhausted } : Loop) = rec .exhausted (some .ret) := by rw [hrec]
        have ep : (rec .done (some .ret)).pending = some .ret := by rw [hrec]
        rw [er, ep] at he
        have h4 := h1.put .exhausted (some .ret)
        exact ⟨some .ret, _, he, hret _ ⟨h4.below, h4.ans, h4.dfr⟩ h3⟩
theorem ans_put {w W : World} {v : Int} (h : W.heap[w.heap.size]? = some (.cells #[.int .i64 v] 28 (0, 0))) (D : Nat) (o : Obj) (hD : w.heap.size ≠ D) : (W.putObj D o).cell? ⟨w.heap.size, 0, none⟩ = some (.int .i64 v) :=
  Boxed.cell (t := 28) ((World.putObj_heap_other hD).trans h)
set_option maxRecDepth 100000 in
set_option maxHeartbeats 2000000 in
theorem path_calls (s : List UInt8) (hs : s.length ≤ 1000000) (k : Int) (w : World) (hk : w.cell? ⟨0, 0, none⟩ = some (.int .i64 k)) :
    Calls Tryz.prog 267 #[.string (str s)] w fun e w' => e = .returned (.int .i64 (pathV s)) ∧ Below w.heap.size w w' := by
  refine (callsIn_wide (n := 5)).1 ?_
  refine callsIn_of_wp_marks Tryz.func267 rfl trivial ?_ rfl
  simp only [Tryz.ntmps267, List.size_toArray, List.length_cons, List.length_nil, Nat.reduceAdd, Nat.reduceSub, Array.replicate_succ, Array.replicate_zero, List.push_toArray, List.append_toArray, List.nil_append, List.cons_append]
  have hcontains := fun (W : World) => Tryz.strings_Contains_one (str s) 0 W
  have c5 : (w.alloc (.cells #[.int .i64 5] 28)).cell? ⟨w.heap.size, 0, none⟩ = some (.int .i64 5) := Boxed.cell (t := 28) (World.alloc_heap_new w _)
  have b5 : Below w.heap.size w (w.alloc (.cells #[.int .i64 5] 28)) := (Below.refl _ w).alloc (Nat.le_refl _) _
  cases hE : (str s).toList.isEmpty
  · cases hL : decide ((4096 : Int) < ((str s).size : Int))
    · cases hC : decide (0 ≤ Lib.indexByte (str s).data.toList 0)
      · gi_wp2_with (first
          | (refine ⟨trivial, ?_⟩; gi_at_call 303; refine (callsIn_wide.2 (hcontains _)).mono ?_; rintro e w1 ⟨rfl, rfl⟩)
          | (refine ⟨trivial, ?_⟩; gi_at_call 304; refine (parts_in _ _ trivial rfl _ _).mono ?_; rintro e w1 ⟨rfl, rfl⟩))
        refine range_law s hs k w hk rfl (fun x => { tmps := #[.string (str s), undef, .pointer (some ⟨w.heap.size, 0, none⟩), .string (str x), .string (str s), .bool false, .bool false, .string (str s), .int .i64 ((str s).size : Int), .bool false, .bool false, .bool false, .string (str s), .bool false, .bool false, .string (str s), .func (.func 334) #[] #[.pointer (some ⟨w.heap.size + 1, 0, none⟩)], .string (str x), undef, undef, undef, undef, undef, undef, undef, undef, undef, undef], defers := [] }) ?_ ?_ ?_ ?_
        · intro l x W K hK
          gi_wp2
          exact hK
        · intro l x W hc hf
          clear hcontains c5 b5 hk hE hL hC
          gi_wp2
          all_goals simp_all [badP, toList_str]
        · intro W hd hno
          have hp : pathV s = 0 := pathV_good (by rw [toList_str] at hE; intro h; rw [h] at hE; cases hE) (by rw [str_size] at hL; have := of_decide_eq_false hL; omega) (fun h => by rw [zero_has h] at hC; cases hC) hno
          have hc := Boxed.cell (t := 28) hd.ans
          have hf := Boxed.frozen (t := 28) hd.ans
          gi_wp2
          have hd2 := Boxed.set (.int .i64 0) (t := 28) hd.ans
          have hdf : (W.setCell ⟨w.heap.size, 0, none⟩ (.int .i64 0)).heap[w.heap.size + 2]? = some (.deferred (some [])) := (Below.heap_setCell _ _ _ _ (by simp)).trans hd.dfr
          refine ⟨by simp, .inl ⟨_, _, rfl, run_takeDeferred hdf, ?_⟩⟩
          have hc := ans_put hd2 (w.heap.size + 2) (.deferred none) (by omega)
          have hb := hd.below.setCell (p := ⟨w.heap.size, 0, none⟩) (Nat.le_refl _) (.int .i64 0)
          exact ⟨.int .i64 0, by simp [results, Tryz.f267, go_sem, hc], by rw [hp], hb.grown (grownBy_putObj' _ _ _) hb.size (fun k e => by cases e; omega)⟩
        · intro W hd hyes
          have hp : pathV s = 5 := pathV_bad (.inr (.inr (.inr hyes)))
          gi_wp2
          refine ⟨by simp, .inl ⟨_, _, rfl, run_takeDeferred hd.dfr, ?_⟩⟩
          have hc := ans_put hd.ans (w.heap.size + 2) (.deferred none) (by omega)
          exact ⟨.int .i64 5, by simp [results, Tryz.f267, go_sem, hc], by rw [hp], hd.below.grown (grownBy_putObj' _ _ _) hd.below.size (fun k e => by cases e; omega)⟩
      · have hp : pathV s = 5 := pathV_bad (.inr (.inr (.inl (has_zero hC))))
        gi_wp2_with (first
          | (refine ⟨trivial, ?_⟩; gi_at_call 303; refine (callsIn_wide.2 (hcontains _)).mono ?_; rintro e w1 ⟨rfl, rfl⟩))
        exact ⟨.int .i64 5, by simp [results, Tryz.f267, go_sem, c5], by rw [hp], b5⟩
    · have hp : pathV s = 5 := pathV_bad (.inr (.inl (by rw [str_size] at hL; have := of_decide_eq_true hL; omega)))
      gi_wp2_with (refine ⟨trivial, ?_⟩)
      exact ⟨.int .i64 5, by simp [results, Tryz.f267, go_sem, c5], by rw [hp], b5⟩
  · have hp : pathV s = 5 := pathV_bad (.inl (by rw [toList_str] at hE; exact List.isEmpty_iff.1 hE))
    gi_wp2_with (refine ⟨trivial, ?_⟩)
    exact ⟨.int .i64 5, by simp [results, Tryz.f267, go_sem, c5], by rw [hp], b5⟩
theorem pathOk : PathOk := fun p m hp => Abs.Spec.of_below rfl fun ι w ys hy hr => by
  rw [Abs.flats_eq (by simp [Abs.flat]) hy]
  obtain ⟨k, hk⟩ := hr.glob.known.maxLen
  exact path_calls p hp k w hk
#print axioms pathOk
end Go.Proofs.YtfdijpacbhomjaaGreatDoor
namespace Go.Proofs.YtfdijpacbhomjaaGreatDoor
open Go.RowKit Abs
theorem cmp_spec (a b : ByteArray) (m : Mem) : Abs.Spec Tryz.prog 307 [.string a, .string b] m fun u M => u = .int .i64 (Lib.compareBytes a.data.toList b.data.toList) ∧ M = m :=
  Abs.Spec.of_below rfl fun ι w ys hy hr => by
    rw [flats_eq (by simp [flat]) hy]
    refine (Tryz.strings_Compare a b w).mono ?_
    rintro e w' ⟨rfl, rfl⟩
    exact ⟨rfl, Below.refl _ _⟩
noncomputable def cmpT (ys : List Value) : Option Value := match ys with
  | [.string a, .string b] => some (.int .i64 (Lib.compareBytes a.data.toList b.data.toList))
  | _ => none
noncomputable def pathT (ys : List Value) : Option Value := match ys with
  | [.string a] => bif Nat.ble a.size 1000000 then some (.int .i64 (pathV a.data.toList)) else none
  | _ => none
noncomputable def repT (ys : List Value) : Option Value := match ys with
  | [.string a, .int .i64 (.ofNat c)] => bif Nat.ble c 1000 then bif Nat.ble a.size 1000 then some (.string (str (Lib.repeatL a.data.toList c))) else none else none
  | _ => none
noncomputable def solT : Caller := flatT 307 cmpT (flatT 267 pathT (flatT 48 repT noT))
theorem solT_good : Abs.Good Tryz.prog solT := by
  refine flatT_good (flatT_good (flatT_good noT_good fun ys v h => ?_) fun ys v h => ?_) fun ys v h => ?_
  · unfold repT at h
    split at h <;> first | (cases h; done) | skip
    rename_i a c
    cases h1 : Nat.ble c 1000 <;> rw [h1] at h <;> first | (cases h; done) | skip
    cases h2 : Nat.ble a.size 1000 <;> rw [h2] at h <;> first | (cases h; done) | skip
    cases h
    have h1 := Nat.le_of_ble_eq_true h1
    have h2 := Nat.le_of_ble_eq_true h2
    have h3 := Nat.mul_le_mul h2 h1
    exact fun m => repeat_spec a c (by omega) (by omega) m
  · unfold pathT at h
    split at h <;> first | (cases h; done) | skip
    rename_i a
    cases h1 : Nat.ble a.size 1000000 <;> rw [h1] at h <;> first | (cases h; done) | skip
    cases h
    have h1 := Nat.le_of_ble_eq_true h1
    exact fun m => pathOk a.data.toList m (by simpa using h1)
  · unfold cmpT at h
    split at h <;> first | (cases h; done) | skip
    cases h
    exact fun m => cmp_spec _ _ m
theorem fl1 {xs : List Value} (h : xs.all (flat 3) = true) : ∀ x ∈ xs, flat 3 x = true := List.all_eq_true.1 h
end Go.Proofs.YtfdijpacbhomjaaGreatDoor
namespace Go.Proofs.YtfdijpacbhomjaaGreatDoor
open Go.RowKit Abs
def in19 : List UInt8 := [1, 1, 97, 1, 120]
def out19 : List UInt8 := [99, 100, 76, 100, 172, 0, 0]
def rich19 : List UInt8 := [5, 192, 1, 9, 0, 0, 0, 194, 48, 22, 213, 22, 198, 63, 204, 3]
def nonce19 : List UInt8 := [83, 76, 68, 71, 0, 0, 0, 0, 0, 0, 0, 0]
def chunk19 : List UInt8 := [99, 100, 76, 100, 172, 0, 0, 0, 0, 0, 0, 0, 0, 0, 0, 0, 0, 0, 0, 0, 0, 0, 0, 0, 0, 0, 0, 0, 0, 0, 0, 0, 0, 0, 0, 0, 0, 0, 0, 0, 0, 0, 0, 0, 0, 0, 0, 0, 0, 0, 0, 0, 0, 0, 0, 0, 0, 0, 0, 0, 0, 0, 0, 0, 0, 0, 0, 0, 0, 0, 0, 0, 0, 0, 0, 0, 0, 0, 0, 0, 0, 0, 0, 0, 0, 0, 0, 0, 0, 0, 0, 0, 0, 0, 0, 0, 0, 0, 0, 0, 0, 0, 0, 0, 0, 0, 0, 0, 0, 0, 0, 0, 0, 0, 0, 0, 0, 0, 0, 0, 0, 0, 0, 0, 0, 0, 0, 0, 0, 0, 0, 0, 0, 0, 0, 0, 0, 0, 0, 0, 0, 0, 0, 0, 0, 0, 0, 0, 0, 0, 0, 0, 0, 0, 0, 0, 0, 0, 0, 0, 0, 0, 0, 0, 0, 0, 0, 0, 0, 0, 0, 0, 0, 0, 0, 0, 0, 0, 0, 0, 0, 0, 0, 0, 0, 0, 0, 0, 0, 0, 0, 0]
end Go.Proofs.YtfdijpacbhomjaaGreatDoor
namespace Go.Proofs.YtfdijpacbhomjaaGreatDoor
open Go.RowKit Abs
noncomputable def cutG (ys : List Value) : Option Value := match ys with
  | [.string s, .string p] => some (.tuple #[.string (str (Lib.trimPrefix s.data.toList p.data.toList)), .bool (Lib.hasPrefix s.data.toList p.data.toList)])
  | _ => none
theorem cutG_known (ys : List Value) (v : Value) (h : cutG ys = some v) : Known Tryz.prog 144 ys v := by
  unfold cutG at h
  split at h <;> first | (cases h; done) | skip
  cases h
  exact fun m => cutPrefix_spec _ _ m
noncomputable def oneB (s : ByteArray) : Option UInt8 := match s with
  | ⟨⟨[c]⟩⟩ => some c
  | _ => none
theorem oneB_spec {s : ByteArray} {c : UInt8} (h : oneB s = some c) : s = str [c] := by
  unfold oneB at h
  split at h <;> first | (cases h; done) | skip
  cases h; rfl
noncomputable def trimG (ys : List Value) : Option Value := match ys with
  | [.string s, .string t] => match oneB t with
    | some c => bif Nat.blt c.toNat 128 then bif Nat.ble s.size 1000000 then some (.string (str (Lib.trimB s.data.toList c))) else none else none
    | none => none
  | _ => none
theorem trimG_known (ys : List Value) (v : Value) (h : trimG ys = some v) : Known Tryz.prog 145 ys v := by
  unfold trimG at h
  split at h <;> first | (cases h; done) | skip
  rename_i s t
  split at h <;> first | (cases h; done) | skip
  rename_i c hc
  cases h1 : Nat.blt c.toNat 128 <;> rw [h1] at h <;> first | (cases h; done) | skip
  cases h2 : Nat.ble s.size 1000000 <;> rw [h2] at h <;> first | (cases h; done) | skip
  cases h
  have h1 : c.toNat < 128 := Nat.le_of_ble_eq_true h1
  have h2 := Nat.le_of_ble_eq_true h2
  rw [oneB_spec hc]
  exact fun m => trim_spec s c h1 (by omega) m
noncomputable def repG (ys : List Value) : Option Value := match ys with
  | [.string a, .int .i64 (.ofNat c)] => bif Nat.ble c 1000 then bif Nat.ble a.size 1000 then some (.string (str (Lib.repeatL a.data.toList c))) else none else none
  | _ => none
theorem repG_known (ys : List Value) (v : Value) (h : repG ys = some v) : Known Tryz.prog 48 ys v := by
  unfold repG at h
  split at h <;> first | (cases h; done) | skip
  rename_i a c
  cases h1 : Nat.ble c 1000 <;> rw [h1] at h <;> first | (cases h; done) | skip
  cases h2 : Nat.ble a.size 1000 <;> rw [h2] at h <;> first | (cases h; done) | skip
  cases h
  have h1 := Nat.le_of_ble_eq_true h1
  have h2 := Nat.le_of_ble_eq_true h2
  have h3 := Nat.mul_le_mul h2 h1
  exact fun m => repeat_spec a c (by omega) (by omega) m
noncomputable def libT (T : Caller) : Caller := flatT 144 cutG (flatT 145 trimG (flatT 48 repG T))
theorem libT_good {T : Caller} (hT : Abs.Good Tryz.prog T) : Abs.Good Tryz.prog (libT T) := flatT_good (flatT_good (flatT_good hT repG_known) trimG_known) cutG_known
end Go.Proofs.YtfdijpacbhomjaaGreatDoor
namespace Go.Proofs.YtfdijpacbhomjaaGreatDoor
open Go.RowKit Abs
theorem Mem.set_set (m : Mem) (b : Nat) (x y : Option Blk) : (m.set b x).set b y = m.set b y := by simp [Mem.set]
theorem Mem.set_comm {m : Mem} {a b : Nat} {x y : Option Blk} (h : a ≠ b) : (m.set a x).set b y = (m.set b y).set a x := by
  simp only [Mem.set]
  rw [List.set_comm _ _ h]
theorem Mem.set_self {m : Mem} {b : Nat} {x : Blk} (h : m.get b = some x) : m.set b (some x) = m := by
  obtain ⟨l⟩ := m
  simp only [Mem.set]
  congr 1
  apply List.ext_getElem?
  intro i
  by_cases e : b = i
  · subst e
    have hl : b < l.length := Mem.get_lt h
    rw [List.getElem?_set_self hl]
    unfold Mem.get at h
    simp only at h
    cases hb : l[b]? with
    | none => rw [hb] at h; cases h
    | some o =>
      rw [hb] at h
      cases o with
      | none => cases h
      | some z => cases z with
        | none => cases h
        | some w => cases h; rfl
  · rw [List.getElem?_set_ne e]
theorem Thin.drop (m : Mem) (r : Nat) : Thin m (m.set r none) where
  has := fun b ⟨o, hb⟩ => by
    by_cases e : r = b
    · subst e
      exact ⟨none, by simp only [Mem.set]; rw [List.getElem?_set_self (List.getElem?_eq_some_iff.1 hb).1]⟩
    · exact ⟨o, by simp only [Mem.set]; rw [List.getElem?_set_ne e]; exact hb⟩
  get := fun b ro s cs hb => by
    by_cases e : r = b
    · subst e
      have hl := Mem.get_lt hb
      rw [Mem.size_set] at hl
      unfold Mem.get at hb
      simp only [Mem.set] at hb
      rw [List.getElem?_set_self hl] at hb
      cases hb
    · rw [Mem.get_set_ne e] at hb
      exact ⟨ro, hb, fun h => h⟩
  oth := fun b x hb => by
    by_cases e : r = b
    · subst e
      have hl := Mem.get_lt hb
      rw [Mem.size_set] at hl
      unfold Mem.get at hb
      simp only [Mem.set] at hb
      rw [List.getElem?_set_self hl] at hb
      cases hb
    · rw [Mem.get_set_ne e] at hb
      exact .inr hb
def syncMem (M : Mem) (p q g s : Nat) (d : Dsk) : Mem :=
  if d.may 0 ≠ 0 then M else if d.fuse = 0 then M.set p (some (.cells false s (dskC q g d.burnt))) else
  ((((M.set p (some (.cells false s (dskC q g d.burnt)))).push (.it false q d.burnt.clock [] d.burnt.clock)).set g (some (.cells false 1 ((d.burnt.old.mapIdx fun i o => (lastOf d.burnt.last i).getD o).map fun s => .string (str s))))).set q (some (.kv false [] d.burnt.clock))).set M.size none
set_option maxRecDepth 100000 in
set_option maxHeartbeats 2000000 in
theorem burn_exact (M : Mem) (p q g s : Nat) (d : Dsk) (hd : DskAt M p q g d) (hr0 : M.get p = some (.cells false s (dskC q g d))) :
    Abs.Spec Tryz.prog 156 [dp p] M fun u M' => u = .bool (!decide (d.fuse = 0)) ∧ M' = M.set p (some (.cells false s (dskC q g d.burnt))) := by
  refine Abs.Spec.walkM Tryz.func156 (by rfl) _ Tryz.results156 _ Tryz.ntmps156 (by simp [dp]) ?_
  intro hc hx k
  unfold dp
  have hr := hr0
  unfold dskC at hr
  have hfu := hd.ok.fuse
  refine CW_seq (R0 ?_)
  refine CW_seq (CW_seq (R1 @hr ?_))
  refine CC (d.fuse == 0) (fun h => CW_seq (CW_region ?_)) (fun h => CW_skip ?_)
  · have h0 : d.fuse = 0 := by simpa using h
    have e : d.burnt = { d with dead := true } := by unfold Dsk.burnt; rw [if_pos h0]
    refine S1 @hr ?_
    refine CW_seq (R0 ?_)
    refine T0 ?_
    exact ⟨_, Thin.refl _, by simp [h0], by rw [e]; rfl⟩
  · have h0 : d.fuse ≠ 0 := by simpa using h
    have e : d.burnt = { d with fuse := max (d.fuse - 1) (-1) } := by unfold Dsk.burnt; rw [if_neg h0]
    refine S0 ?_
    refine CW_seq (CW_region ?_)
    have w1 : IntKind.i64.wrap (d.fuse - 1) = d.fuse - 1 := wri (by omega) (by omega)
    refine S3 @hr @w1 @vMax_int ?_
    refine CW_seq (R0 ?_)
    refine T0 ?_
    exact ⟨_, Thin.refl _, by simp [h0], by rw [e]; rfl⟩
set_option maxRecDepth 100000 in
set_option maxHeartbeats 2000000 in
theorem sync_exact (M : Mem) (p q g s₀ : Nat) (d : Dsk) (hd : DskAt M p q g d) (hr₀ : M.get p = some (.cells false s₀ (dskC q g d))) :
    Abs.Spec Tryz.prog 108 [dp p] M fun u M' => u = .int .i64 d.sync.2 ∧ M' = syncMem M p q g s₀ d := by
  refine Abs.Spec.walkM Tryz.func108 (by rfl) _ Tryz.results108 _ Tryz.ntmps108 (by simp [dp]) ?_
  intro hc hx k
  obtain ⟨X, hX⟩ : ∃ X, X = syncMem M p q g s₀ d := ⟨_, rfl⟩
  rw [← hX]
  unfold syncMem at hX
  obtain ⟨D, hD⟩ : ∃ D, D = d.sync := ⟨_, rfl⟩
  rw [← hD]
  unfold Dsk.sync at hD
  refine CW_seq (R0 ?_)
  refine CW_seq (CW_seq (R0 ?_))
  refine K0 (may_spec M p q g d hd 0) ?_
  refine CW_seq (R0 ?_)
  refine CC (d.may 0 != 0) (fun h => CW_seq (CW_region ?_)) (fun h => CW_skip ?_)
  · refine S0 ?_
    refine T0 ?_
    have h : d.may 0 ≠ 0 := by simpa using h
    rw [if_pos h] at hD
    subst hD
    exact ⟨_, Thin.refl _, rfl, by rw [hX, if_pos h]⟩
  have h : d.may 0 = 0 := by simpa using h
  rw [if_neg (by simp [h])] at hX
  rw [if_neg (by simp [h])] at hD
  refine S0 ?_
  refine CW_seq (CW_seq (R0 ?_))
  refine ⟨by kernel_rfl, _, burn_exact M p q g s₀ d hd hr₀, ?_⟩
  rintro _ M1 ⟨rfl, eM1⟩
  have hd1 : DskAt M1 p q g d.burnt := by rw [eM1]; exact hd.turn hd.ok.burnt (burnt_old d) (burnt_last d) (burnt_clock d) s₀
  have hs1 : M1.size = M.size := by rw [eM1, Mem.size_set]
  refine S0 ?_
  refine CC (!!decide (d.fuse = 0)) (fun h => CW_seq (CW_region ?_)) (fun h => CW_skip ?_)
  · refine S0 ?_
    refine T0 ?_
    rw [Bool.not_not] at h
    have h := of_decide_eq_true h
    rw [if_pos h] at hD
    subst hD
    exact ⟨_, Thin.refl _, rfl, by rw [hX, if_pos h, eM1]⟩
  rw [Bool.not_not] at h
  have h3 := of_decide_eq_false h
  rw [if_neg h3] at hD hX
  refine S0 ?_
  have hdp : dp p = .pointer (some ⟨p, 0, none⟩) := rfl
  obtain ⟨E, hE⟩ : ∃ E, E = d.burnt := ⟨_, rfl⟩
  rw [← hE] at hd1 hD eM1 hX
  clear hE
  obtain ⟨s, hr⟩ := hd1.row
  have hr' := hr
  unfold dskC at hr
  refine CW_seq (CW_seq (CW_region ?_))
  simp only [zZ, reduceIte, Nat.reduceLT, Int.reduceToNat, Int.reduceLE, Int.reduceEq, Int.reduceLT, Nat.reduceEqDiff, Nat.reduceAdd, zDk, pd_eql, pd_neq, pd_eql0, pd_neq0, hr, hdp, range_dsk hd1.kv]
  obtain ⟨M2, hM2⟩ : ∃ M2, M2 = M1.push (.it false q E.clock [] E.clock) := ⟨_, rfl⟩
  obtain ⟨r, hr0⟩ : ∃ r, r = M1.size := ⟨_, rfl⟩
  rw [← hM2, ← hr0]
  have hrp : r ≠ p := by have := get_live hr; omega
  have hrq : r ≠ q := by have := get_live hd1.kv; omega
  have hrg : r ≠ g := by have := get_live hd1.old; omega
  have hit : M2.get r = some (.it false q E.clock [] E.clock) := by rw [hM2, hr0, Mem.get_push_new]
  have hold2 : ∀ b x, M1.get b = some x → M2.get b = some x := fun b x hb => by rw [hM2, Mem.get_push_old (get_live hb)]; exact hb
  have hs2 : M2.size = M1.size + 1 := by rw [hM2, Mem.size_push]
  refine CW_block (MW_loop (fun j f M' => ∃ seen : List Nat, j = (aLeft (ents E.last) seen).length ∧ f = [(0, .pointer (some ⟨p, 0, none⟩)), (18, .pointer (some ⟨r, 0, none⟩))] ∧ M'.get r = some (.it false q E.clock seen E.clock) ∧
    DskAt M' p q g { E with old := syncV E.old E.last seen } ∧ M' = (M2.set g (some (.cells false 1 ((syncV E.old E.last seen).map fun s => .string (str s))))).set r (some (.it false q E.clock seen E.clock))) (aLeft (ents E.last) []).length ?_ ?_)
  · refine JK [0, 18] ?_
    refine ⟨M2, Thin.refl _, [], rfl, hit, ?_, ?_⟩
    · rw [syncV_nil]
      exact hd1.same hold2
    · rw [syncV_nil, Mem.set_self (hold2 _ _ hd1.old), Mem.set_self hit]
  · rintro j f M' ⟨seen, rfl, rfl, hit', hd', eM'⟩
    have hnx := next_dsk hit' hd'.kv (by exact hd1.ok.clock) (Nat.le_refl _)
    refine CW_seq (R1 @hnx ?_)
    rintro v m' (⟨rfl, e9, hdone⟩ | ⟨e, he, rfl, rfl⟩)
    · replace e9 := e9.symm; subst e9
      refine S0 ?_
      refine CW_seq (CF (CW_exit ?_))
      refine S0 ?_
      obtain ⟨s', hr2⟩ := hd'.row
      unfold dskC at hr2
      refine CW_seq (CW_region ?_)
      simp only [zZ, reduceIte, Nat.reduceLT, Int.reduceToNat, Int.reduceLE, Int.reduceEq, Int.reduceLT, Nat.reduceEqDiff, Nat.reduceAdd, zDk, pd_eql, pd_neq, pd_eql0, pd_neq0, hr2, clear_dsk hd'.kv]
      refine CW_seq (R0 ?_)
      refine T0 ?_
      subst hD
      have hok := hd1.ok.synced
      have := hd'.kvTurn (L := []) (c := E.clock) (by rw [syncV_all hdone]; exact hok)
      rw [syncV_all hdone] at this
      refine ⟨_, Thin.drop _ r, rfl, ?_⟩
      rw [eM', syncV_all hdone, hX, hM2, eM1]
      rw [Mem.set_comm hrq, Mem.set_set]
      rw [hr0, hs1]
      rfl
    · have hless := aLeft_less he
      obtain ⟨x, hx, rfl, hns⟩ := aLeft_mem he
      obtain ⟨hx1, hx2⟩ := hd1.ok.within x hx
      simp only at hless ⊢
      obtain ⟨M3, hM3⟩ : ∃ M3, M3 = M'.set r (some (.it false q E.clock (seen ++ [x.2.2]) E.clock)) := ⟨_, rfl⟩
      rw [← hM3]
      have hit3 : M3.get r = some (.it false q E.clock (seen ++ [x.2.2]) E.clock) := by rw [hM3]; exact Mem.get_set_same hit' _
      have hd3 : DskAt M3 p q g { E with old := syncV E.old E.last seen } := by rw [hM3]; exact hd'.only (Only.set (l := [r]) (by simp) _) (by simpa using Ne.symm hrp) (by simpa using Ne.symm hrq) (by simpa using Ne.symm hrg)
      obtain ⟨s3, hr3⟩ := hd3.row
      unfold dskC at hr3
      simp only at hr3
      have hent := entry_dsk (get := M3.get) hit3 hd3.kv hd1.ok.born hx
      refine S0 ?_
      refine CW_seq (CW_cond true (by rfl) (fun _ => CW_skip ?_) (fun h => by cases h))
      refine S0 ?_
      refine CW_block (CW_seq (R1 @hent ?_))
      have g0 : (0 : Int) ≤ (x.1 : Int) := by omega
      have g1 : (x.1 : Int) < ((syncV E.old E.last seen).length : Int) := by rw [syncV_len]; omega
      have hput : putIn 1 M3 g x.1 [.string (str x.2.1)] (M3.get g) = some (M3.set g (some (.cells false 1 ((syncV E.old E.last (seen ++ [x.2.2])).map fun s => .string (str s))))) := by
        rw [hd3.old]
        simp only [putIn]
        rw [if_pos ⟨rfl, by simp only [List.length_cons, List.length_nil, List.length_map, syncV_len]; omega, rfl⟩]
        rcases syncV_step (old := E.old) (seen := seen) hd1.ok.keys hx with h1 | ⟨y, hy, hne, hyb⟩
        · rw [← h1]
          simp only [setL, List.map_set]
        · exact absurd (nodup_born hd1.ok.born hy hx hyb) hne
      refine R5 @hr3 @g0 @g1 @and_self @hput ?_
      refine JK [0, 18] ?_
      refine ⟨_, Thin.refl _, _, ⟨seen ++ [x.2.2], rfl, by rw [Mem.get_set_ne (Ne.symm hrg)]; exact hit3, ?_, ?_⟩, hless⟩
      · exact ⟨⟨by simp only [syncV_len]; exact hd1.ok.n, by simp only [syncV_len]; exact hd1.ok.pos, fun s hs => syncV_size hd1.ok _ hs, hd1.ok.keys, hd1.ok.born, hd1.ok.clock, fun x hx => by simp only [syncV_len]; exact hd1.ok.within x hx, hd1.ok.fuse, trivial⟩, ⟨s3, by rw [Mem.get_set_ne (Ne.symm hd1.pg), hr3]; simp only [dskC, syncV_len]⟩, by rw [Mem.get_set_ne (Ne.symm hd1.qg)]; exact hd3.kv, Mem.get_set_same hd3.old _, hd1.pq, hd1.pg, hd1.qg⟩
      · rw [hM3, eM', Mem.set_set, Mem.set_comm hrg, Mem.set_set]
end Go.Proofs.YtfdijpacbhomjaaGreatDoor
namespace Go.Proofs.YtfdijpacbhomjaaGreatDoor
open Go.RowKit Abs
def strL : List Value → Option (List (List UInt8))
  | [] => some []
  | .string s :: r => match strL r with
    | some l => some (s.data.toList :: l)
    | none => none
  | _ => none
theorem strL_spec : ∀ {l : List Value} {xs : List (List UInt8)}, strL l = some xs → l = xs.map fun s => .string (str s)
  | [], xs, h => by cases h; rfl
  | x :: r, xs, h => by
    unfold strL at h
    split at h <;> first | (cases h; done) | skip
    · rename_i e; cases e
    · rename_i s r' e
      cases e
      split at h <;> first | (cases h; done) | skip
      rename_i l hl
      cases h
      rw [strL_spec hl]
      rfl
def entL : List MapEntry → Option LastL
  | [] => some []
  | ⟨.int .i64 (.ofNat k), .string s, b⟩ :: r => match entL r with
    | some l => some ((k, s.data.toList, b) :: l)
    | none => none
  | _ => none
theorem entL_spec : ∀ {l : List MapEntry} {xs : LastL}, entL l = some xs → l = ents xs
  | [], xs, h => by cases h; rfl
  | x :: r, xs, h => by
    unfold entL at h
    split at h <;> first | (cases h; done) | skip
    · rename_i e; cases e
    · rename_i k s b r' e
      cases e
      split at h <;> first | (cases h; done) | skip
      rename_i l hl
      cases h
      rw [entL_spec hl]
      rfl
def nodupB : List Nat → Bool
  | [] => true
  | a :: r => bif r.all (fun b => !(Nat.beq a b)) then nodupB r else false
theorem nodupB_spec : ∀ {l : List Nat}, nodupB l = true → l.Nodup
  | [], _ => List.nodup_nil
  | a :: r, h => by
    unfold nodupB at h
    cases hb : r.all (fun b => !(Nat.beq a b)) with
    | false => rw [hb] at h; cases h
    | true =>
      rw [hb] at h
      refine List.nodup_cons.2 ⟨fun hm => ?_, nodupB_spec h⟩
      have := List.all_eq_true.1 hb a hm
      simp at this
def okB (d : Dsk) : Bool := Nat.ble d.old.length 1024 && (Nat.blt 0 d.old.length && (d.old.all (fun s => Nat.beq s.length 256) && (nodupB (d.last.map (·.1)) && (nodupB (d.last.map (·.2.2)) &&
  (d.last.all (fun x => Nat.blt x.2.2 d.clock) && (d.last.all (fun x => Nat.blt x.1 d.old.length && Nat.beq x.2.1.length 256) && (decide (-1 ≤ d.fuse) && decide (d.fuse ≤ 9223372036854775807))))))))
theorem okB_spec {d : Dsk} (h : okB d = true) : d.Ok := by
  unfold okB at h
  simp only [Bool.and_eq_true] at h
  obtain ⟨h1, h2, h3, h4, h5, h6, h7, h8, h9⟩ := h
  exact ⟨Nat.le_of_ble_eq_true h1, Nat.le_of_ble_eq_true h2, fun s hs => Nat.eq_of_beq_eq_true (List.all_eq_true.1 h3 s hs), nodupB_spec h4, nodupB_spec h5, fun x hx => Nat.le_of_ble_eq_true (List.all_eq_true.1 h6 x hx),
    fun x hx => by
      have := List.all_eq_true.1 h7 x hx
      simp only [Bool.and_eq_true] at this
      exact ⟨Nat.le_of_ble_eq_true this.1, Nat.eq_of_beq_eq_true this.2⟩, ⟨of_decide_eq_true h8, of_decide_eq_true h9⟩, trivial⟩
theorem lim_own {f : FMem} {b : Nat} {z : Blk} (hb : f.get b = some z) (hz : z.own = true) : ¬ b < f.lim := by
  obtain ⟨y, _, h2⟩ := FMem.get_of hb
  intro hl
  rw [if_pos hl] at h2
  rw [frzB_own h2] at hz
  cases hz
theorem Abs.MR.putLim {f : FMem} {m : Mem} (h : MR f m) {b : Nat} (hlim : ¬ b < f.lim) (hb : b < m.size) (x : Option Blk) : MR (f.put b x) (m.set b x) := by
  refine ⟨by simp [FMem.put, h.1], h.2.1, fun c y hc => ?_⟩
  obtain ⟨u, h1, h2⟩ := FMem.get_of hc
  replace h2 : (if c < f.lim then frzB u else some u) = some y := h2
  simp only [FMem.put] at h1
  rw [Tr.get_set] at h1
  by_cases e : c = b
  · subst e
    rw [if_pos rfl] at h1
    subst h1
    rw [if_neg hlim] at h2
    rw [← h2]
    unfold Mem.get Mem.set
    simp only
    rw [List.getElem?_set_self hb]
  · rw [if_neg e] at h1
    rw [Mem.get_set_ne (Ne.symm e)]
    exact h.2.2 c y (by rw [FMem.get_to h1]; exact h2)
noncomputable def forceCs {β : Type} (l : List Value) (k : List Value → β) : β := forceL (fun v k => forceV 1 v k) l k
theorem forceCs_eq {β : Type} (l : List Value) (k : List Value → β) : forceCs l k = k l := forceL_eq (fun v k => forceV_eq 1 v k) l k
noncomputable def syncF (m : FMem) (p q g s : Nat) (d : Dsk) : Option (Value × FMem) :=
  bif decide (d.may 0 = 0) then (bif decide (d.fuse = 0) then forceCs (dskC q g d.burnt) fun cs => some (.int .i64 7, m.put p (some (.cells false s cs)))
    else forceCs (dskC q g d.burnt) fun cs => forceCs ((d.burnt.old.mapIdx fun i o => (lastOf d.burnt.last i).getD o).map fun s => .string (str s)) fun os =>
      some (.int .i64 0, ((((m.put p (some (.cells false s cs))).push (.it false q d.burnt.clock [] d.burnt.clock)).put g (some (.cells false 1 os))).put q (some (.kv false [] d.burnt.clock))).put m.n none))
  else forceV 1 (.int .i64 (d.may 0)) fun v => some (v, m)
noncomputable def syncD (m : FMem) (p q g s n n' : Nat) (fuse : Int) (dead : Bool) (clock : Nat) (es : List MapEntry) (cs : List Value) : Option (Value × FMem) := match strL cs with
  | some old => match entL es with
    | some last => bif okB ⟨old, last, clock, fuse, dead⟩ && (Nat.beq n old.length && (Nat.beq n' old.length && (!(Nat.beq p q) && (!(Nat.beq p g) && !(Nat.beq q g))))) then syncF m p q g s ⟨old, last, clock, fuse, dead⟩ else none
    | none => none
  | none => none
noncomputable def syncM (m : FMem) (p : Nat) : Option (Value × FMem) := match m.get p with
  | some (.cells false s [.slice (some ⟨g, 0, none⟩) n n', .map (some q), .int .i64 fuse, .bool dead]) => match m.get q with
    | some (.kv false es clock) => match m.get g with
      | some (.cells false 1 cs) => syncD m p q g s n n' fuse dead clock es cs
      | _ => none
    | _ => none
  | _ => none
noncomputable def syncT (T : Caller) : Caller := fun j ys m => bif Nat.beq j 108 then (match ys with
  | [.pointer (some ⟨p, 0, none⟩)] => syncM m p
  | _ => none) else T j ys m
theorem syncT_good {T : Caller} (hT : Abs.Good Tryz.prog T) : Abs.Good Tryz.prog (syncT T) := fun j ys f v f' h m hm => by
  unfold syncT at h
  cases hk : Nat.beq j 108 with
  | false => rw [hk] at h; exact hT j ys f v f' h m hm
  | true =>
    rw [hk] at h
    have ek := Nat.eq_of_beq_eq_true hk
    subst ek
    simp only [cond_true] at h
    split at h <;> first | (cases h; done) | skip
    rename_i p
    unfold syncM at h
    split at h <;> first | (cases h; done) | skip
    rename_i s g n n' q fuse dead hp
    split at h <;> first | (cases h; done) | skip
    rename_i es clock hq
    split at h <;> first | (cases h; done) | skip
    rename_i cs hg
    unfold syncD at h
    split at h <;> first | (cases h; done) | skip
    rename_i old hold
    split at h <;> first | (cases h; done) | skip
    rename_i last hlast
    obtain ⟨d, hd⟩ : ∃ d : Dsk, d = ⟨old, last, clock, fuse, dead⟩ := ⟨_, rfl⟩
    rw [← hd] at h
    cases hb : okB d && (Nat.beq n old.length && (Nat.beq n' old.length && (!(Nat.beq p q) && (!(Nat.beq p g) && !(Nat.beq q g))))) with
    | false => rw [hb] at h; cases h
    | true =>
      rw [hb] at h
      simp only [cond_true] at h
      simp only [Bool.and_eq_true, Bool.not_eq_true'] at hb
      obtain ⟨b1, b2, b3, b4, b5, b6⟩ := hb
      have b2 := Nat.eq_of_beq_eq_true b2
      have b3 := Nat.eq_of_beq_eq_true b3
      subst b2
      subst b3
      have c4 : p ≠ q := Nat.ne_of_beq_eq_false b4
      have c5 : p ≠ g := Nat.ne_of_beq_eq_false b5
      have c6 : q ≠ g := Nat.ne_of_beq_eq_false b6
      have hrow : m.get p = some (.cells false s (dskC q g d)) := by rw [hm.2.2 _ _ hp, hd]; rfl
      have hkv : m.get q = some (.kv false (ents d.last) d.clock) := by rw [hm.2.2 _ _ hq, hd, entL_spec hlast]
      have hgo : m.get g = some (.cells false 1 (d.old.map fun s => .string (str s))) := by rw [hm.2.2 _ _ hg, hd, strL_spec hold]
      have hD : DskAt m p q g d := ⟨okB_spec b1, ⟨s, hrow⟩, hkv, hgo, c4, c5, c6⟩
      have hs := sync_exact m p q g s d hD hrow
      refine ⟨syncMem m p q g s d, ?_⟩
      have ev : ∀ {u : Value}, u = .int .i64 d.sync.2 → Abs.Spec Tryz.prog 108 [.pointer (some ⟨p, 0, none⟩)] m fun w M => w = u ∧ M = syncMem m p q g s d := fun hu => by rw [hu]; exact hs
      unfold syncF at h
      by_cases hmay : d.may 0 = 0
      · rw [decide_eq_true hmay, cond_true] at h
        by_cases hf : d.fuse = 0
        · rw [decide_eq_true hf, cond_true, forceCs_eq] at h
          cases h
          have eM : syncMem m p q g s d = m.set p (some (.cells false s (dskC q g d.burnt))) := by unfold syncMem; rw [if_neg (by simp [hmay]), if_pos hf]
          refine ⟨by rw [eM]; exact hm.put hp _, ev (by unfold Dsk.sync; rw [if_neg (by simp [hmay]), if_pos hf]), by rw [eM]; exact Ext.set hrow _ rfl⟩
        · rw [decide_eq_false hf, cond_false, forceCs_eq, forceCs_eq] at h
          cases h
          have eM : syncMem m p q g s d = ((((m.set p (some (.cells false s (dskC q g d.burnt)))).push (.it false q d.burnt.clock [] d.burnt.clock)).set g (some (.cells false 1 ((d.burnt.old.mapIdx fun i o => (lastOf d.burnt.last i).getD o).map fun s => .string (str s))))).set q (some (.kv false [] d.burnt.clock))).set m.size none := by
            unfold syncMem; rw [if_neg (by simp [hmay]), if_neg hf]
          have hpl := Mem.get_lt hrow
          have hql := Mem.get_lt hkv
          have hgl := Mem.get_lt hgo
          have lp := lim_own hp rfl
          have lq := lim_own hq rfl
          have lg := lim_own hg rfl
          obtain ⟨X1, hX1⟩ : ∃ X1, X1 = m.set p (some (.cells false s (dskC q g d.burnt))) := ⟨_, rfl⟩
          obtain ⟨X2, hX2⟩ : ∃ X2, X2 = X1.push (.it false q d.burnt.clock [] d.burnt.clock) := ⟨_, rfl⟩
          obtain ⟨X3, hX3⟩ : ∃ X3, X3 = X2.set g (some (.cells false 1 ((d.burnt.old.mapIdx fun i o => (lastOf d.burnt.last i).getD o).map fun s => .string (str s)))) := ⟨_, rfl⟩
          obtain ⟨X4, hX4⟩ : ∃ X4, X4 = X3.set q (some (.kv false [] d.burnt.clock)) := ⟨_, rfl⟩
          rw [← hX1, ← hX2, ← hX3, ← hX4] at eM
          have z1 : X1.size = m.size := by rw [hX1, Mem.size_set]
          have z2 : X2.size = m.size + 1 := by rw [hX2, Mem.size_push, z1]
          have z3 : X3.size = m.size + 1 := by rw [hX3, Mem.size_set, z2]
          have z4 : X4.size = m.size + 1 := by rw [hX4, Mem.size_set, z3]
          have g1 : X2.get g = some (.cells false 1 (d.old.map fun s => .string (str s))) := by rw [hX2, Mem.get_push_old (by omega), hX1, Mem.get_set_ne c5]; exact hgo
          have g2 : X3.get q = some (.kv false (ents d.last) d.clock) := by rw [hX3, Mem.get_set_ne (Ne.symm c6), hX2, Mem.get_push_old (by omega), hX1, Mem.get_set_ne c4]; exact hkv
          have g3 : X4.get m.size = some (.it false q d.burnt.clock [] d.burnt.clock) := by
            rw [hX4, Mem.get_set_ne (by omega), hX3, Mem.get_set_ne (by omega), hX2, ← z1, Mem.get_push_new]
          have r1 : MR (f.put p (some (.cells false s (dskC q g d.burnt)))) X1 := by rw [hX1]; exact hm.putLim lp hpl _
          have r2 : MR ((f.put p (some (.cells false s (dskC q g d.burnt)))).push (.it false q d.burnt.clock [] d.burnt.clock)) X2 := by rw [hX2]; exact r1.push _
          have e2 : ∀ (a : FMem) (b : Blk), (a.push b).lim = a.lim := fun a b => by rw [FMem.push_eq]
          have e3 : ∀ (a : FMem) (b : Nat) (x : Option Blk), (a.put b x).lim = a.lim := fun _ _ _ => rfl
          have r3 := r2.putLim (b := g) (by rw [e2]; exact lg) (by omega) (some (.cells false 1 ((d.burnt.old.mapIdx fun i o => (lastOf d.burnt.last i).getD o).map fun s => .string (str s))))
          rw [← hX3] at r3
          have r4 := r3.putLim (b := q) (by rw [e3, e2, e3]; exact lq) (by omega) (some (.kv false [] d.burnt.clock))
          rw [← hX4] at r4
          have r5 := r4.putLim (b := f.n) (by rw [e3, e3, e2, e3]; have := hm.2.1; omega) (by have := hm.1; omega) none
          have x1 : Abs.Ext m X1 := by rw [hX1]; exact Ext.set hrow _ rfl
          have x2 : Abs.Ext X1 X2 := by rw [hX2]; exact Ext.pushAny _ _ rfl
          have x3 : Abs.Ext X2 X3 := by rw [hX3]; exact Ext.setAny g1 rfl _ rfl
          have x4 : Abs.Ext X3 X4 := by rw [hX4]; exact Ext.setAny g2 rfl _ rfl
          have x5 : Abs.Ext X4 (X4.set m.size none) := Ext.setAny g3 rfl _ rfl
          refine ⟨by rw [eM, hm.1]; exact r5, ev (by unfold Dsk.sync; rw [if_neg (by simp [hmay]), if_neg hf]), by rw [eM]; exact (((x1.trans x2).trans x3).trans x4).trans x5⟩
      · rw [decide_eq_false hmay, cond_false, forceV_eq] at h
        cases h
        have eM : syncMem m p q g s d = m := by unfold syncMem; rw [if_pos hmay]
        exact ⟨by rw [eM]; exact hm, ev (by unfold Dsk.sync; rw [if_pos hmay]), by rw [eM]; exact Ext.refl _⟩
end Go.Proofs.YtfdijpacbhomjaaGreatDoor
--LONG
/-
  epoch.Next, for the machine as a function.
-/
namespace Go.Proofs.YtfdijpacbhomjaaGreatDoor
open Go.RowKit Abs
noncomputable def cellB (m : FMem) (b s n : Nat) : Bool := match m.get b with
  | some (.cells false r [.int .i64 (.ofNat k)]) => Nat.beq r s && Nat.beq k n
  | _ => false
theorem cellB_spec {m : FMem} {b s n : Nat} (h : cellB m b s n = true) : m.get b = some (.cells false s [.int .i64 (n : Nat)]) := by
  unfold cellB at h
  split at h <;> first | (cases h; done) | skip
  rename_i r k hk
  rw [Bool.and_eq_true] at h
  rw [hk, Nat.eq_of_beq_eq_true h.1, Nat.eq_of_beq_eq_true h.2]
  rfl
noncomputable def cellsN (s1 s2 n : Nat) (b : Nat) (v : Nat) (m : FMem) : Bool := cellB m b s1 v && cellB m (Nat.succ b) s2 n
noncomputable def isOK (r : Option (Value × FMem)) : Option FMem := match r with
  | some (.int .i64 (.ofNat 0), m) => some m
  | _ => none
theorem isOK_spec {r : Option (Value × FMem)} {m : FMem} (h : isOK r = some m) : r = some (.int .i64 0, m) := by
  unfold isOK at h
  split at h <;> first | (cases h; done) | skip
  cases h; rfl
noncomputable def lastOK (r : Option (Value × FMem)) : Option (Nat × FMem) := match r with
  | some (.tuple ⟨[.int .i64 (.ofNat n), .int .i64 (.ofNat 0)]⟩, m) => some (n, m)
  | _ => none
theorem lastOK_spec {r : Option (Value × FMem)} {n : Nat} {m : FMem} (h : lastOK r = some (n, m)) : r = some (.tuple #[.int .i64 (n : Nat), .int .i64 0], m) := by
  unfold lastOK at h
  split at h <;> first | (cases h; done) | skip
  cases h; rfl
noncomputable def textOK (r : Option (Value × FMem)) : Option (ByteArray × FMem) := match r with
  | some (.string t, m) => some (t, m)
  | _ => none
theorem textOK_spec {r : Option (Value × FMem)} {t : ByteArray} {m : FMem} (h : textOK r = some (t, m)) : r = some (.string t, m) := by
  unfold textOK at h
  split at h <;> first | (cases h; done) | skip
  cases h; rfl
noncomputable def nextF (s1 s2 : Nat) (T : Caller) (p i : Nat) (m : FMem) : Option (Value × FMem) :=
  match lastOK (T 158 [dp p, .int .i64 (.ofNat i)] ((m.push (.cells false s1 [.int .i64 (.ofNat 0)])).push (.cells false s2 [.int .i64 (.ofNat 0)]))) with
  | some (n, m2) => bif cellsN s1 s2 0 m.n 0 m2 && Nat.ble n 4294967294 then
    forceV 1 (.int .i64 (.ofNat (Nat.succ n))) fun v =>
    match textOK (T 159 [v] (m2.put m.n (some (.cells false s1 [v])))) with
    | some (t, m3) => match isOK (T 94 [dp p, .int .i64 (.ofNat i), .string t] m3) with
      | some m4 => bif cellsN s1 s2 0 m.n (Nat.succ n) m4 then
        match isOK (T 108 [dp p] m4) with
        | some m5 => bif cellsN s1 s2 0 m.n (Nat.succ n) m5 then some (.tuple ⟨[v, .int .i64 (.ofNat 0)]⟩, m5) else none
        | none => none
        else none
      | none => none
    | none => none
    else none
  | none => none
noncomputable def nextT (T S : Caller) : Caller := fun j ys m => bif Nat.beq j 95 then (match ys with
  | [.pointer (some ⟨p, 0, none⟩), .int .i64 (.ofNat i)] => nextF (aStride Tryz.prog 3) (aStride Tryz.prog 28) T p i m
  | _ => none) else S j ys m
set_option maxRecDepth 100000 in
set_option maxHeartbeats 4000000 in
theorem nextT_good {T S : Caller} (hT : Abs.Good Tryz.prog T) (hS : Abs.Good Tryz.prog S) : Abs.Good Tryz.prog (nextT T S) := fun j ys f v f' h m hm => by
  unfold nextT at h
  cases hk : Nat.beq j 95 with
  | false => rw [hk] at h; exact hS j ys f v f' h m hm
  | true =>
    rw [hk] at h
    have ek := Nat.eq_of_beq_eq_true hk
    subst ek
    simp only [cond_true] at h
    split at h <;> first | (cases h; done) | skip
    rename_i p i
    generalize hs1 : aStride Tryz.prog 3 = s1 at h
    generalize hs2 : aStride Tryz.prog 28 = s2 at h
    unfold nextF at h
    split at h <;> first | (cases h; done) | skip
    rename_i n f2 hL
    replace hL := lastOK_spec hL
    obtain ⟨bb, hbb⟩ : ∃ b, (cellsN s1 s2 0 f.n 0 f2 && Nat.ble n 4294967294) = b := ⟨_, rfl⟩
    rw [hbb] at h
    cases bb <;> first | (cases h; done) | skip
    rw [cond_true, forceV_eq] at h
    split at h <;> first | (cases h; done) | skip
    rename_i t f3 hX
    replace hX := textOK_spec hX
    split at h <;> first | (cases h; done) | skip
    rename_i f4 hW
    replace hW := isOK_spec hW
    obtain ⟨b4, hb4⟩ : ∃ b, cellsN s1 s2 0 f.n (Nat.succ n) f4 = b := ⟨_, rfl⟩
    rw [hb4] at h
    cases b4 <;> first | (cases h; done) | skip
    rw [cond_true] at h
    split at h <;> first | (cases h; done) | skip
    rename_i f5 hY
    replace hY := isOK_spec hY
    obtain ⟨b5, hb5⟩ : ∃ b, cellsN s1 s2 0 f.n (Nat.succ n) f5 = b := ⟨_, rfl⟩
    rw [hb5] at h
    cases b5 <;> first | (cases h; done) | skip
    rw [cond_true] at h
    cases h
    unfold cellsN at hbb hb4 hb5
    simp only [Bool.and_eq_true] at hbb hb4 hb5
    obtain ⟨⟨c1, c2⟩, c3⟩ := hbb
    replace c1 := cellB_spec c1
    replace c2 := cellB_spec c2
    replace c3 := Nat.le_of_ble_eq_true c3
    have d1 := cellB_spec hb4.1
    have d2 := cellB_spec hb4.2
    have e1 := cellB_spec hb5.1
    have e2 := cellB_spec hb5.2
    obtain ⟨bn, hbn⟩ : ∃ bn, bn = f.n := ⟨_, rfl⟩
    rw [← hbn] at c1 c2 d1 d2 e1 e2 hX
    have hsz : m.size = bn := by rw [hbn]; exact hm.1
    have r1 := (hm.push (.cells false s1 [.int .i64 0])).push (.cells false s2 [.int .i64 0])
    obtain ⟨M2, r2, S2, x2⟩ := hT _ _ _ _ _ hL _ r1
    have g1 := r2.2.2 _ _ c1
    have g2 := r2.2.2 _ _ c2
    have r2' := r2.put c1 (some (.cells false s1 [.int .i64 (.ofNat (Nat.succ n))]))
    obtain ⟨M3, r3, S3, x3⟩ := hT _ _ _ _ _ hX _ r2'
    obtain ⟨M4, r4, S4, x4⟩ := hT _ _ _ _ _ hW _ r3
    have g3 := r4.2.2 _ _ d1
    have g4 := r4.2.2 _ _ d2
    obtain ⟨M5, r5, S5, x5⟩ := hT _ _ _ _ _ hY _ r4
    have g5 := r5.2.2 _ _ e1
    have g6 := r5.2.2 _ _ e2
    have xx : Abs.Ext m M5 := ((((Ext.push m s1 _).trans (Ext.push _ s2 _)).trans x2).trans (Ext.set g1 _ rfl)).trans ((x3.trans x4).trans x5)
    refine ⟨M5, r5, ?_, xx⟩
    refine Abs.Spec.walk_defer (k' := 157) Tryz.func95 (by rfl) rfl rfl rfl rfl rfl rfl (by kernel_rfl) Tryz.func157 (by rfl) Tryz.results157 _ Tryz.results95 _ Tryz.ntmps95 (by simp [Tryz.ntmps95]) (by simp [Tryz.ntmps95]) _ Tryz.ntmps157 ?_
    refine SW_region ?_
    simp only [zS, reduceIte, Nat.reduceLT, Int.reduceToNat, Int.reduceLE, Int.reduceEq, Int.reduceLT, Nat.reduceEqDiff, Nat.reduceAdd, zDk, pd_eql, pd_neq, pd_eql0, pd_neq0, zZ, hs1, hs2]
    obtain ⟨N0, hN0⟩ : ∃ N0, N0 = (m.push (.cells false s1 [.int .i64 0])).push (.cells false s2 [.int .i64 0]) := ⟨_, rfl⟩
    obtain ⟨be, hbe⟩ : ∃ be, be = m.size + 1 := ⟨_, rfl⟩
    have h0n : N0.get bn = some (.cells false s1 [.int .i64 0]) := by rw [hN0, ← hsz, Mem.get_push_old (by rw [Mem.size_push]; omega), Mem.get_push_new]
    have h0e : N0.get be = some (.cells false s2 [.int .i64 0]) := by
      have := Mem.get_push_new (m.push (.cells false s1 [.int .i64 0])) (.cells false s2 [.int .i64 0])
      rw [Mem.size_push] at this
      rw [hN0, hbe]; exact this
    have ebe : Nat.succ bn = be := by rw [hbe, hsz]
    rw [ebe] at c2 d2 e2 g2 g4 g6
    rw [Mem.size_push, ← hN0, ← hbe, hsz]
    refine ⟨_, rfl, by show 2 ≤ 4; decide, ?_⟩
    generalize hQ : dEnd Tryz.prog _ _ _ _ _ = Q
    have close : ∀ (f2 : AL), AL.get f2 4 = some (.pointer (some ⟨bn, 0, none⟩)) → AL.get f2 5 = some (.pointer (some ⟨be, 0, none⟩)) → Q .ret f2 M5 := fun f2 h4 h5 => by
      rw [← hQ]
      have l1 : aLoad Tryz.prog M5 3 (.pointer (some ⟨bn, 0, none⟩)) = some (.int .i64 (Nat.succ n : Nat)) := by simp only [aLoad_g, zDk, pd_eql, pd_neq, pd_eql0, pd_neq0, g5]; rfl
      have l2 : aLoad Tryz.prog M5 28 (.pointer (some ⟨be, 0, none⟩)) = some (.int .i64 0) := by simp only [aLoad_g, zDk, pd_eql, pd_neq, pd_eql0, pd_neq0, g6]; rfl
      have hans : sAnswer Tryz.prog [.cell 4 3, .cell 5 28] f2 M5 = some (.tuple #[.int .i64 (Nat.succ n : Nat), .int .i64 0]) := by simp only [sAnswer, sAnswer.sRes, h4, h5, l1, l2]
      refine ⟨.inl rfl, SW_seq (SW_region ?_)⟩
      simp only [zS, reduceIte, Nat.reduceLT, Int.reduceToNat, Int.reduceLE, Int.reduceEq, Int.reduceLT, Nat.reduceEqDiff, Nat.reduceAdd, zDk, pd_eql, pd_neq, pd_eql0, pd_neq0, zZ, g6]
      refine SW_cond false (by rfl) (fun h => by cases h) (fun _ => SW_skip ?_)
      simp only [zS, reduceIte, Nat.reduceLT, Int.reduceToNat, Int.reduceLE, Int.reduceEq, Int.reduceLT, Nat.reduceEqDiff, Nat.reduceAdd, zDk, pd_eql, pd_neq, pd_eql0, pd_neq0, zZ]
      exact ⟨.inr trivial, _, hans, rfl⟩
    clear hQ
    have q00 : ((0 : Int) != 0) = false := rfl
    have w1 : IntKind.i64.wrap ((n : Int) + 1) = ((Nat.succ n : Nat) : Int) := by rw [wri (by omega) (by omega)]; rfl
    have hgt : decide (((Nat.succ n : Nat) : Int) > 4294967295) = false := decide_eq_false (by omega)
    have sne : ∀ (m : Mem) (x : Option Blk), (m.set bn x).get be = m.get be := fun m x => Mem.get_set_ne (by omega) x
    have sen : ∀ (m : Mem) (x : Option Blk), (m.set be x).get bn = m.get bn := fun m x => Mem.get_set_ne (by omega) x
    intro D
    refine SW_seq (SW_seq (SW_region ?_))
    simp only [zS, reduceIte, Nat.reduceLT, Int.reduceToNat, Int.reduceLE, Int.reduceEq, Int.reduceLT, Nat.reduceEqDiff, Nat.reduceAdd, zDk, pd_eql, pd_neq, pd_eql0, pd_neq0, zZ]
    rw [← hN0] at S2
    refine ⟨by kernel_rfl, _, S2, ?_⟩
    rintro _ Y9 ⟨rfl, y9⟩; replace y9 := y9.symm; subst y9
    obtain ⟨A, hA⟩ : ∃ A, A = (M2.set bn (some (.cells false s1 [.int .i64 (n : Int)]))).set be (some (.cells false s2 [.int .i64 0])) := ⟨_, rfl⟩
    have a1 : A.get bn = some (.cells false s1 [.int .i64 (n : Int)]) := by rw [hA, sen]; exact Mem.get_set_same g1 _
    have a2 : A.get be = some (.cells false s2 [.int .i64 0]) := by rw [hA]; exact Mem.get_set_same (by rw [sne]; exact g2) _
    have eA : A.set bn (some (.cells false s1 [.int .i64 (Nat.succ n : Nat)])) = M2.set bn (some (.cells false s1 [.int .i64 (Nat.succ n : Nat)])) := by
      have e : (M2.set bn (some (.cells false s1 [.int .i64 (n : Int)]))).set be (some (.cells false s2 [.int .i64 0])) = M2.set bn (some (.cells false s1 [.int .i64 (n : Int)])) := Mem.set_self (by rw [sne]; exact g2)
      rw [hA, e, Mem.set_set]
    simp only [zS, reduceIte, Nat.reduceLT, Int.reduceToNat, Int.reduceLE, Int.reduceEq, Int.reduceLT, Nat.reduceEqDiff, Nat.reduceAdd, zDk, pd_eql, pd_neq, pd_eql0, pd_neq0, zZ, g1, sne, g2]
    rw [← hA]
    refine SW_seq (SW_region ?_)
    simp only [zS, reduceIte, Nat.reduceLT, Int.reduceToNat, Int.reduceLE, Int.reduceEq, Int.reduceLT, Nat.reduceEqDiff, Nat.reduceAdd, zDk, pd_eql, pd_neq, pd_eql0, pd_neq0, zZ, a2]
    refine SW_cond false (by rfl) (fun h => by cases h) (fun _ => SW_skip ?_)
    simp only [zS, reduceIte, Nat.reduceLT, Int.reduceToNat, Int.reduceLE, Int.reduceEq, Int.reduceLT, Nat.reduceEqDiff, Nat.reduceAdd, zDk, pd_eql, pd_neq, pd_eql0, pd_neq0, zZ]
    refine SW_seq (SW_seq (SW_region ?_))
    simp only [zS, reduceIte, Nat.reduceLT, Int.reduceToNat, Int.reduceLE, Int.reduceEq, Int.reduceLT, Nat.reduceEqDiff, Nat.reduceAdd, zDk, pd_eql, pd_neq, pd_eql0, pd_neq0, zZ, a1, w1]
    rw [eA]
    have b1 : (M2.set bn (some (.cells false s1 [.int .i64 (Nat.succ n : Nat)]))).get bn = some (.cells false s1 [.int .i64 (Nat.succ n : Nat)]) := Mem.get_set_same g1 _
    refine SW_seq (SW_region ?_)
    simp only [zS, reduceIte, Nat.reduceLT, Int.reduceToNat, Int.reduceLE, Int.reduceEq, Int.reduceLT, Nat.reduceEqDiff, Nat.reduceAdd, zDk, pd_eql, pd_neq, pd_eql0, pd_neq0, zZ, b1]
    refine SW_cond false (by rw [hgt]; rfl) (fun h => by cases h) (fun _ => SW_skip ?_)
    simp only [zS, reduceIte, Nat.reduceLT, Int.reduceToNat, Int.reduceLE, Int.reduceEq, Int.reduceLT, Nat.reduceEqDiff, Nat.reduceAdd, zDk, pd_eql, pd_neq, pd_eql0, pd_neq0, zZ]
    refine SW_seq (SW_seq (SW_region ?_))
    simp only [zS, reduceIte, Nat.reduceLT, Int.reduceToNat, Int.reduceLE, Int.reduceEq, Int.reduceLT, Nat.reduceEqDiff, Nat.reduceAdd, zDk, pd_eql, pd_neq, pd_eql0, pd_neq0, zZ, b1]
    refine ⟨by kernel_rfl, _, S3, ?_⟩
    rintro _ Y9 ⟨rfl, y9⟩; replace y9 := y9.symm; subst y9
    simp only [zS, reduceIte, Nat.reduceLT, Int.reduceToNat, Int.reduceLE, Int.reduceEq, Int.reduceLT, Nat.reduceEqDiff, Nat.reduceAdd, zDk, pd_eql, pd_neq, pd_eql0, pd_neq0, zZ]
    refine ⟨by kernel_rfl, _, S4, ?_⟩
    rintro _ Y9 ⟨rfl, y9⟩; replace y9 := y9.symm; subst y9
    have eB : M4.set be (some (.cells false s2 [.int .i64 0])) = M4 := Mem.set_self g4
    simp only [zS, reduceIte, Nat.reduceLT, Int.reduceToNat, Int.reduceLE, Int.reduceEq, Int.reduceLT, Nat.reduceEqDiff, Nat.reduceAdd, zDk, pd_eql, pd_neq, pd_eql0, pd_neq0, zZ, g4]
    rw [eB]
    refine SW_seq (SW_region ?_)
    simp only [zS, reduceIte, Nat.reduceLT, Int.reduceToNat, Int.reduceLE, Int.reduceEq, Int.reduceLT, Nat.reduceEqDiff, Nat.reduceAdd, zDk, pd_eql, pd_neq, pd_eql0, pd_neq0, zZ, g4]
    refine SW_cond false (by rfl) (fun h => by cases h) (fun _ => SW_skip ?_)
    simp only [zS, reduceIte, Nat.reduceLT, Int.reduceToNat, Int.reduceLE, Int.reduceEq, Int.reduceLT, Nat.reduceEqDiff, Nat.reduceAdd, zDk, pd_eql, pd_neq, pd_eql0, pd_neq0, zZ]
    refine SW_seq (SW_draw6L hmix 2 [0] (by kernel_rfl) ?_)
    simp only [zS, reduceIte, Nat.reduceLT, Int.reduceToNat, Int.reduceLE, Int.reduceEq, Int.reduceLT, Nat.reduceEqDiff, Nat.reduceAdd, zDk, pd_eql, pd_neq, pd_eql0, pd_neq0, zZ, g3, sQB6]
    refine ⟨by kernel_rfl, _, S5, ?_⟩
    rintro _ Y9 ⟨rfl, y9⟩; replace y9 := y9.symm; subst y9
    have eC : M5.set bn (some (.cells false s1 [.int .i64 (Nat.succ n : Nat)])) = M5 := Mem.set_self g5
    have eD : M5.set be (some (.cells false s2 [.int .i64 0])) = M5 := Mem.set_self g6
    simp only [zS, reduceIte, Nat.reduceLT, Int.reduceToNat, Int.reduceLE, Int.reduceEq, Int.reduceLT, Nat.reduceEqDiff, Nat.reduceAdd, zDk, pd_eql, pd_neq, pd_eql0, pd_neq0, zZ, g5, g6, idleOK, sne, Option.bind_some]
    refine ⟨⟨.int .i64 (Nat.succ n : Nat), by rw [g3]; rfl, rfl⟩, ?_⟩
    rw [eC, eD]
    refine SW_ret ?_
    exact close _ rfl rfl
end Go.Proofs.YtfdijpacbhomjaaGreatDoor
namespace Go.Proofs.YtfdijpacbhomjaaGreatDoor
open Go.RowKit Abs
theorem mtag_spec (key : ByteArray) (v : Value) (xs : List ByteArray) (m : Mem) (hd : Rd m 1 v xs.length (xs.map .string)) (hk : key.size ≤ 140737488355200) (hlen : xs.length ≤ maxLen) (hsz : (joined xs).length ≤ 140737488355000) :
    Abs.Spec Tryz.prog 166 [.string key, v] m fun u M => u = .string (str (Sha.tag key.data.toList (joined xs))) ∧ M = m :=
  Spec.of_below rfl fun ι w ys hy hr => by
    obtain ⟨a', b', rfl, ha, hb⟩ := vrels_two hy
    cases ha
    exact tag_any key b' xs w (Rd.strs hr hd hb) hk hlen hsz
end Go.Proofs.YtfdijpacbhomjaaGreatDoor
namespace Go.Proofs.YtfdijpacbhomjaaGreatDoor.Sha
open Go Go.Proofs.YtfdijpacbhomjaaGreatDoor.Abs
def rotF (x n m : Nat) : Nat := Nat.lor (Nat.shiftRight x n) (Nat.mod (Nat.shiftLeft x m) 4294967296)
def s0F (x : Nat) : Nat := Nat.xor (Nat.xor (rotF x 7 25) (rotF x 18 14)) (Nat.shiftRight x 3)
def s1F (x : Nat) : Nat := Nat.xor (Nat.xor (rotF x 17 15) (rotF x 19 13)) (Nat.shiftRight x 10)
def big0F (a : Nat) : Nat := Nat.xor (Nat.xor (rotF a 2 30) (rotF a 13 19)) (rotF a 22 10)
def big1F (e : Nat) : Nat := Nat.xor (Nat.xor (rotF e 6 26) (rotF e 11 21)) (rotF e 25 7)
def chF (e f g : Nat) : Nat := Nat.xor (Nat.land e f) (Nat.land (Nat.sub 4294967295 e) g)
def majF (a b c : Nat) : Nat := Nat.xor (Nat.xor (Nat.land a b) (Nat.land a c)) (Nat.land b c)
noncomputable def nthN (l : List Nat) : Nat → Nat := List.rec (motive := fun _ => Nat → Nat) (fun _ => 0) (fun x _ ih i => Nat.rec (motive := fun _ => Nat) x (fun j _ => ih j) i) l
theorem nthN_eq : ∀ (l : List Nat) (i : Nat), nthN l i = l.getD i 0
  | [], _ => rfl
  | _ :: _, 0 => rfl
  | x :: r, i + 1 => by
    show nthN r i = _
    rw [nthN_eq r i, List.getD_cons_succ]
noncomputable def nthB (l : List UInt8) : Nat → Nat := List.rec (motive := fun _ => Nat → Nat) (fun _ => 0) (fun x _ ih i => Nat.rec (motive := fun _ => Nat) x.toNat (fun j _ => ih j) i) l
theorem nthB_eq : ∀ (l : List UInt8) (i : Nat), nthB l i = (l.getD i 0).toNat
  | [], _ => rfl
  | _ :: _, 0 => rfl
  | x :: r, i + 1 => by
    show nthB r i = _
    rw [nthB_eq r i, List.getD_cons_succ]
noncomputable def wordF (l : List UInt8) (i : Nat) : Nat := Nat.add (Nat.add (Nat.add (Nat.mul (nthB l (Nat.mul 4 i)) 16777216) (Nat.mul (nthB l (Nat.add (Nat.mul 4 i) 1)) 65536)) (Nat.mul (nthB l (Nat.add (Nat.mul 4 i) 2)) 256)) (nthB l (Nat.add (Nat.mul 4 i) 3))
theorem wordF_eq (l : List UInt8) (i : Nat) : wordF l i = beWord l i := by
  unfold wordF beWord
  simp only [nthB_eq]
  rfl
section
variable {R : Type}
noncomputable def firstF (l : List UInt8) (k : List Nat → R) (is : List Nat) : List Nat → R := List.rec (motive := fun _ => List Nat → R) k (fun i _ ih acc => forceN (wordF l i) fun w => ih (w :: acc)) is
theorem firstF_eq (l : List UInt8) (k : List Nat → R) : ∀ (is acc : List Nat), firstF l k is acc = k ((is.map (beWord l)).reverse ++ acc)
  | [], acc => rfl
  | i :: is, acc => by
    have e : firstF l k (i :: is) acc = forceN (wordF l i) fun w => firstF l k is (w :: acc) := rfl
    rw [e, forceN_eq, firstF_eq l k is, wordF_eq]
    simp
noncomputable def nextF (W : List Nat) (k : Nat → R) : R := forceN (nthN W 14) fun x => forceN (nthN W 1) fun y => forceN (Nat.mod (Nat.add (Nat.add (Nat.add (nthN W 15) (s0F x)) (nthN W 6)) (s1F y)) 4294967296) k
noncomputable def moreF (k : List Nat → R) (n : Nat) : List Nat → R := Nat.rec (motive := fun _ => List Nat → R) k (fun _ ih W => nextF W fun w => ih (w :: W)) n
theorem getD_rev {l : List Nat} {i : Nat} (h : i < l.length) : l.reverse.getD i 0 = l.getD (l.length - 1 - i) 0 := by
  simp only [List.getD, List.getElem?_reverse h]
theorem nextF_eq (b : Bytes) (t : Nat) (ht : 16 ≤ t) (k : Nat → R) : nextF (sched b t).reverse k = k (nextW (sched b t) t) := by
  have hl := sched_length b t
  unfold nextF
  simp only [forceN_eq, nthN_eq]
  rw [getD_rev (by omega), getD_rev (by omega), getD_rev (by omega), getD_rev (by omega), hl]
  rw [show t - 1 - 14 = t - 15 by omega, show t - 1 - 1 = t - 2 by omega, show t - 1 - 15 = t - 16 by omega, show t - 1 - 6 = t - 7 by omega]
  rfl
theorem moreF_eq (b : Bytes) (k : List Nat → R) : ∀ (n t : Nat), 16 ≤ t → moreF k n (sched b t).reverse = k (sched b (t + n)).reverse
  | 0, t, _ => rfl
  | n + 1, t, ht => by
    have e : moreF k (n + 1) (sched b t).reverse = nextF (sched b t).reverse fun w => moreF k n (w :: (sched b t).reverse) := rfl
    have e2 : (sched b (t + 1)).reverse = nextW (sched b t) t :: (sched b t).reverse := by
      show ((sched b t) ++ [if t < 16 then beWord b t else nextW (sched b t) t]).reverse = _
      rw [if_neg (by omega)]; simp
    rw [e, nextF_eq b t ht, ← e2, moreF_eq b k n (t + 1) (by omega), show t + 1 + n = t + (n + 1) by omega]
noncomputable def revF (k : List Nat → R) (l : List Nat) : List Nat → R := List.rec (motive := fun _ => List Nat → R) k (fun x _ ih acc => ih (x :: acc)) l
theorem revF_eq (k : List Nat → R) : ∀ (l acc : List Nat), revF k l acc = k (l.reverse ++ acc)
  | [], acc => rfl
  | x :: l, acc => by
    have e : revF k (x :: l) acc = revF k l (x :: acc) := rfl
    rw [e, revF_eq k l]; simp
theorem sched16 (b : Bytes) : sched b 16 = [0, 1, 2, 3, 4, 5, 6, 7, 8, 9, 10, 11, 12, 13, 14, 15].map (beWord b) := rfl
abbrev F8 (R : Type) := Nat → Nat → Nat → Nat → Nat → Nat → Nat → Nat → R
noncomputable def roundF (k : F8 R) (Ks : List Nat) : List Nat → F8 R := List.rec (motive := fun _ => List Nat → F8 R) (fun _ => k)
  (fun kk _ ih W a b c d e f g h => List.rec (motive := fun _ => R) (k a b c d e f g h) (fun w W' _ =>
    forceN (Nat.mod (Nat.add (Nat.add (Nat.add (Nat.add h (big1F e)) (chF e f g)) kk) w) 4294967296) fun t1 => forceN (Nat.mod (Nat.add d t1) 4294967296) fun e' =>
    forceN (Nat.mod (Nat.add t1 (Nat.mod (Nat.add (big0F a) (majF a b c)) 4294967296)) 4294967296) fun a' => ih W' a' a b c e' e f g) W) Ks
def foldR : List Nat → List Nat → W8 → W8
  | kk :: Ks, w :: W, v => foldR Ks W (turn v kk w)
  | _, _, v => v
theorem roundF_eq (k : F8 R) : ∀ (Ks W : List Nat) (v : W8), roundF k Ks W v.a v.b v.c v.d v.e v.f v.g v.h = k (foldR Ks W v).a (foldR Ks W v).b (foldR Ks W v).c (foldR Ks W v).d (foldR Ks W v).e (foldR Ks W v).f (foldR Ks W v).g (foldR Ks W v).h
  | [], W, v => by cases W <;> rfl
  | kk :: Ks, [], v => rfl
  | kk :: Ks, w :: W, v => by
    have ih := roundF_eq k Ks W (turn v kk w)
    have e : foldR (kk :: Ks) (w :: W) v = foldR Ks W (turn v kk w) := rfl
    rw [e, ← ih]
    have e2 : ∀ a b c d e f g h, roundF k (kk :: Ks) (w :: W) a b c d e f g h = forceN (Nat.mod (Nat.add (Nat.add (Nat.add (Nat.add h (big1F e)) (chF e f g)) kk) w) 4294967296) fun t1 => forceN (Nat.mod (Nat.add d t1) 4294967296) fun e' =>
      forceN (Nat.mod (Nat.add t1 (Nat.mod (Nat.add (big0F a) (majF a b c)) 4294967296)) 4294967296) fun a' => roundF k Ks W a' a b c e' e f g := fun _ _ _ _ _ _ _ _ => rfl
    rw [e2]
    simp only [forceN_eq]
    rfl
theorem foldR_snoc : ∀ (Ks W : List Nat) (v : W8) (a b : Nat), Ks.length = W.length → foldR (Ks ++ [a]) (W ++ [b]) v = turn (foldR Ks W v) a b
  | [], [], v, a, b, _ => rfl
  | x :: Ks, y :: W, v, a, b, h => by
    show foldR (Ks ++ [a]) (W ++ [b]) (turn v x y) = _
    rw [foldR_snoc Ks W _ a b (by simpa using h)]
    rfl
  | [], y :: W, v, a, b, h => by cases h
  | x :: Ks, [], v, a, b, h => by cases h
theorem take_snoc {l : List Nat} {n : Nat} (h : n < l.length) : l.take (n + 1) = l.take n ++ [l.getD n 0] := by
  rw [List.take_add_one, List.getElem?_eq_getElem h]
  simp [List.getD, List.getElem?_eq_getElem h]
theorem foldR_rounds (v : W8) (w : List Nat) (hw : w.length = 64) : ∀ n, n ≤ 64 → foldR (K.take n) (w.take n) v = rounds v w n
  | 0, _ => by simp [foldR, rounds]
  | n + 1, h => by
    have hK : K.length = 64 := rfl
    rw [take_snoc (by omega), take_snoc (by omega), foldR_snoc _ _ _ _ _ (by simp [hw, hK]), foldR_rounds v w hw n (by omega)]
    rfl
noncomputable def mixF (l : List UInt8) (k : F8 R) (a b c d e f g h : Nat) : R :=
  firstF l (fun acc => moreF (fun W => revF (fun W => roundF (fun a' b' c' d' e' f' g' h' =>
    forceN (Nat.mod (Nat.add a a') 4294967296) fun a => forceN (Nat.mod (Nat.add b b') 4294967296) fun b => forceN (Nat.mod (Nat.add c c') 4294967296) fun c => forceN (Nat.mod (Nat.add d d') 4294967296) fun d =>
    forceN (Nat.mod (Nat.add e e') 4294967296) fun e => forceN (Nat.mod (Nat.add f f') 4294967296) fun f => forceN (Nat.mod (Nat.add g g') 4294967296) fun g => forceN (Nat.mod (Nat.add h h') 4294967296) fun h => k a b c d e f g h) K W a b c d e f g h) W []) 48 acc) [0, 1, 2, 3, 4, 5, 6, 7, 8, 9, 10, 11, 12, 13, 14, 15] []
theorem mixF_eq (l : List UInt8) (k : F8 R) (v : W8) : mixF l k v.a v.b v.c v.d v.e v.f v.g v.h = k (mix v l).a (mix v l).b (mix v l).c (mix v l).d (mix v l).e (mix v l).f (mix v l).g (mix v l).h := by
  have hr : foldR K (sched l 64) v = rounds v (sched l 64) 64 := by
    have := foldR_rounds v (sched l 64) (sched_length _ _) 64 (Nat.le_refl _)
    rwa [List.take_of_length_le (show K.length ≤ 64 from Nat.le_of_eq rfl), List.take_of_length_le (show (sched l 64).length ≤ 64 from by rw [sched_length]; exact Nat.le_refl _)] at this
  unfold mixF
  rw [firstF_eq, List.append_nil, ← sched16, moreF_eq l _ 48 16 (Nat.le_refl _), revF_eq, List.append_nil, List.reverse_reverse, roundF_eq, hr]
  have em : mix v l = v.plus (rounds v (sched l 64) 64) := rfl
  rw [em]
  generalize rounds v (sched l 64) 64 = r
  simp only [forceN_eq]
  rfl
noncomputable def dropF (n : Nat) : List UInt8 → List UInt8 := Nat.rec (motive := fun _ => List UInt8 → List UInt8) (fun l => l) (fun _ ih l => List.rec (motive := fun _ => List UInt8) [] (fun _ r _ => ih r) l) n
theorem dropF_eq : ∀ (n : Nat) (l : List UInt8), dropF n l = l.drop n
  | 0, l => rfl
  | n + 1, [] => rfl
  | n + 1, x :: r => dropF_eq n r
noncomputable def blocksF (k : F8 R) (n : Nat) : List UInt8 → F8 R := Nat.rec (motive := fun _ => List UInt8 → F8 R) (fun _ => k)
  (fun _ ih l a b c d e f g h => mixF l (fun a b c d e f g h => Abs.spine (dropF 64 l) fun r => ih r a b c d e f g h) a b c d e f g h) n
theorem beWord_take (l : List UInt8) (i : Nat) (h : i < 16) : beWord (l.take 64) i = beWord l i := by
  unfold beWord
  have key : ∀ j, j < 64 → (l.take 64).getD j 0 = l.getD j 0 := fun j hj => by simp only [List.getD, List.getElem?_take, if_pos hj]
  rw [key _ (by omega), key _ (by omega), key _ (by omega), key _ (by omega)]
theorem sched_take64 (l : List UInt8) : ∀ t, sched (l.take 64) t = sched l t
  | 0 => rfl
  | t + 1 => by
    show sched (l.take 64) t ++ [if t < 16 then beWord (l.take 64) t else nextW (sched (l.take 64) t) t] = sched l t ++ [if t < 16 then beWord l t else nextW (sched l t) t]
    rw [sched_take64 l t]
    by_cases h : t < 16
    · rw [if_pos h, if_pos h, beWord_take l t h]
    · rw [if_neg h, if_neg h]
theorem blocksF_eq (k : F8 R) : ∀ (n : Nat) (l : List UInt8) (v : W8), blocksF k n l v.a v.b v.c v.d v.e v.f v.g v.h = k (blocksN v l n).a (blocksN v l n).b (blocksN v l n).c (blocksN v l n).d (blocksN v l n).e (blocksN v l n).f (blocksN v l n).g (blocksN v l n).h
  | 0, l, v => rfl
  | n + 1, l, v => by
    have e : ∀ a b c d e f g h, blocksF k (n + 1) l a b c d e f g h = mixF l (fun a b c d e f g h => Abs.spine (dropF 64 l) fun r => blocksF k n r a b c d e f g h) a b c d e f g h := fun _ _ _ _ _ _ _ _ => rfl
    have em : mix v (l.take 64) = mix v l := by unfold mix; rw [sched_take64]
    have eb : blocksN v l (n + 1) = blocksN (mix v (l.take 64)) (l.drop 64) n := rfl
    rw [e, mixF_eq, Abs.spine_eq, dropF_eq, blocksF_eq k n (l.drop 64) (mix v l), eb, em]
end
noncomputable def lenF (l : List UInt8) : Nat := List.rec (motive := fun _ => Nat) 0 (fun _ _ n => Nat.succ n) l
theorem lenF_eq : ∀ (l : List UInt8), lenF l = l.length
  | [] => rfl
  | _ :: r => congrArg Nat.succ (lenF_eq r)
noncomputable def sumF (l : List UInt8) : List UInt8 := forceN (lenF l) fun n => forceL forceB (l ++ tail n) fun L => forceN (Nat.div (lenF L) 64) fun b => blocksF (fun a b c d e f g h => (W8.mk a b c d e f g h).bytes) b L 0x6a09e667 0xbb67ae85 0x3c6ef372 0xa54ff53a 0x510e527f 0x9b05688c 0x1f83d9ab 0x5be0cd19
theorem sumF_eq (l : List UInt8) : sumF l = sum l := by
  unfold sumF
  simp only [forceN_eq, forceL_eq (forceB_eq), lenF_eq]
  exact blocksF_eq (fun a b c d e f g h => (W8.mk a b c d e f g h).bytes) ((l ++ tail l.length).length / 64) (l ++ tail l.length) start
noncomputable def tagF (k m : List UInt8) : List UInt8 := forceL forceB (pad k 0x36 ++ m) fun x => forceL forceB (sumF x) fun s => forceL forceB (pad k 0x5c ++ s) fun y => sumF y
theorem tagF_eq (k m : List UInt8) : tagF k m = tag k m := by
  unfold tagF tag
  simp only [forceL_eq (forceB_eq), sumF_eq]
end Go.Proofs.YtfdijpacbhomjaaGreatDoor.Sha
namespace Go.Proofs.YtfdijpacbhomjaaGreatDoor
open Go.RowKit Abs
def allStr : List Value → Option (List ByteArray)
  | [] => some []
  | .string s :: r => match allStr r with
    | some l => some (s :: l)
    | none => none
  | _ => none
theorem allStr_spec : ∀ {l : List Value} {xs : List ByteArray}, allStr l = some xs → l = xs.map .string
  | [], xs, h => by cases h; rfl
  | x :: r, xs, h => by
    unfold allStr at h
    split at h <;> first | (cases h; done) | skip
    · rename_i e; cases e
    · rename_i s r' e
      cases e
      split at h <;> first | (cases h; done) | skip
      rename_i l hl
      cases h
      rw [allStr_spec hl]
      rfl
noncomputable def tagK (key : ByteArray) (n c : Nat) (cs : List Value) (m : FMem) : Option (Value × FMem) := match allStr cs with
  | some xs => bif Nat.beq n xs.length then bif Nat.ble n c then bif Nat.ble c 1000 then bif Nat.ble key.size 100000 then bif Nat.ble (joined xs).length 100000 then
      forceV 2 (.string (str (Sha.tagF key.data.toList (joined xs)))) fun v => some (v, m) else none else none else none else none else none
  | none => none
noncomputable def tagM (m : FMem) (key : ByteArray) (b n c : Nat) : Option (Value × FMem) := match m.get b with
  | some (.cells _ 1 cs) => tagK key n c cs m
  | _ => none
noncomputable def tagT (T : Caller) : Caller := fun j ys m => bif Nat.beq j 166 then (match ys with
  | [.string key, .slice (some ⟨b, 0, none⟩) n c] => tagM m key b n c
  | _ => none) else T j ys m
theorem tagT_good {T : Caller} (hT : Abs.Good Tryz.prog T) : Abs.Good Tryz.prog (tagT T) := fun j ys f v f' h m hm => by
  unfold tagT at h
  cases hk : Nat.beq j 166 with
  | false => rw [hk] at h; exact hT j ys f v f' h m hm
  | true =>
    rw [hk] at h
    have ek := Nat.eq_of_beq_eq_true hk
    subst ek
    simp only [cond_true] at h
    split at h <;> first | (cases h; done) | skip
    rename_i key b n c
    unfold tagM at h
    split at h <;> first | (cases h; done) | skip
    rename_i ro cs hg
    unfold tagK at h
    split at h <;> first | (cases h; done) | skip
    rename_i xs hx
    cases h1 : Nat.beq n xs.length <;> rw [h1] at h <;> first | (cases h; done) | skip
    cases h2 : Nat.ble n c <;> rw [h2] at h <;> first | (cases h; done) | skip
    cases h3 : Nat.ble c 1000 <;> rw [h3] at h <;> first | (cases h; done) | skip
    cases h4 : Nat.ble key.size 100000 <;> rw [h4] at h <;> first | (cases h; done) | skip
    cases h5 : Nat.ble (joined xs).length 100000 <;> rw [h5] at h <;> first | (cases h; done) | skip
    simp only [cond_true] at h
    rw [forceV_eq, Sha.tagF_eq] at h
    cases h
    have h1 := Nat.eq_of_beq_eq_true h1
    have h2 := Nat.le_of_ble_eq_true h2
    have h3 := Nat.le_of_ble_eq_true h3
    have h4 := Nat.le_of_ble_eq_true h4
    have h5 := Nat.le_of_ble_eq_true h5
    subst h1
    have hcs := allStr_spec hx
    have hmx : c ≤ maxLen := Nat.le_trans h3 (by decide)
    exact ⟨m, hm, mtag_spec key _ xs m ⟨_, c, rfl, by simp, h2, hmx, (fun e => by cases e), fun p hp => by cases hp; exact ⟨b, rfl, fun _ => ⟨ro, by rw [← hcs]; exact hm.2.2 _ _ hg⟩⟩⟩ (by omega) (by omega) (by omega), Ext.refl _⟩
noncomputable def alsoT (T S : Caller) : Caller := fun k ys m => match T k ys m with
  | some r => some r
  | none => S k ys m
theorem alsoT_good {P : Program} {T S : Caller} (hT : Abs.Good P T) (hS : Abs.Good P S) : Abs.Good P (alsoT T S) := fun k ys f v f' h m hm => by
  unfold alsoT at h
  split at h
  · rename_i r hr; cases h; exact hT _ _ _ _ _ hr m hm
  · exact hS _ _ _ _ _ h m hm
end Go.Proofs.YtfdijpacbhomjaaGreatDoor
namespace Go.Proofs.YtfdijpacbhomjaaGreatDoor.Ex
open Go Go.RowKit Abs
set_option maxRecDepth 100000
theorem exp32 (k info : List UInt8) : Sha.expand k info 32 = Sha.tag k (info ++ [1]) := by
  have : Sha.expand k info 32 = (Sha.tag k (info ++ [1])).take 32 := rfl
  rw [this, List.take_of_length_le (by rw [Sha.tag_length]; decide)]
theorem t1 : Sha.tag [115, 97, 108, 116, 4, 5, 6, 7, 8, 9, 10, 11, 12, 13, 14, 15] [115] = [210, 33, 204, 149, 64, 6, 110, 50, 181, 190, 233, 117, 129, 93, 13, 240, 166, 8, 112, 126, 23, 196, 194, 78, 71, 233, 165, 134, 188, 56, 73, 156] := by kernel_rfl
theorem enc : Sha.tag [210, 33, 204, 149, 64, 6, 110, 50, 181, 190, 233, 117, 129, 93, 13, 240, 166, 8, 112, 126, 23, 196, 194, 78, 71, 233, 165, 134, 188, 56, 73, 156] (Sha.forBytes ++ [1]) = [175, 34, 229, 180, 255, 21, 238, 119, 141, 240, 208, 107, 121, 237, 247, 0, 95, 110, 181, 1, 138, 51, 88, 151, 210, 77, 244, 6, 35, 6, 210, 24] := by kernel_rfl
theorem mac : Sha.tag [210, 33, 204, 149, 64, 6, 110, 50, 181, 190, 233, 117, 129, 93, 13, 240, 166, 8, 112, 126, 23, 196, 194, 78, 71, 233, 165, 134, 188, 56, 73, 156] (Sha.forTags ++ [1]) = [214, 162, 101, 238, 90, 251, 113, 98, 220, 230, 155, 211, 124, 230, 232, 216, 172, 222, 249, 211, 122, 121, 111, 213, 3, 163, 52, 47, 8, 133, 108, 177] := by kernel_rfl
theorem t2 : Sha.tag [] [115] = [251, 35, 176, 83, 125, 246, 242, 109, 123, 108, 252, 0, 101, 236, 127, 49, 117, 221, 108, 93, 218, 165, 72, 52, 155, 112, 78, 7, 31, 32, 150, 34] := by kernel_rfl
theorem head : Sha.tag [251, 35, 176, 83, 125, 246, 242, 109, 123, 108, 252, 0, 101, 236, 127, 49, 117, 221, 108, 93, 218, 165, 72, 52, 155, 112, 78, 7, 31, 32, 150, 34] (Sha.forHeads ++ [1]) = [99, 92, 220, 172, 47, 209, 125, 152, 245, 28, 243, 212, 52, 67, 4, 67, 159, 212, 28, 67, 33, 199, 164, 24, 178, 211, 127, 217, 175, 83, 194, 69] := by kernel_rfl
theorem enc2 : Sha.tag [251, 35, 176, 83, 125, 246, 242, 109, 123, 108, 252, 0, 101, 236, 127, 49, 117, 221, 108, 93, 218, 165, 72, 52, 155, 112, 78, 7, 31, 32, 150, 34] (Sha.forBytes ++ [1]) = [102, 151, 195, 209, 36, 59, 64, 121, 44, 129, 251, 219, 255, 16, 143, 176, 45, 108, 41, 96, 32, 27, 91, 92, 148, 223, 69, 112, 176, 143, 58, 128] := by kernel_rfl
theorem mac2 : Sha.tag [251, 35, 176, 83, 125, 246, 242, 109, 123, 108, 252, 0, 101, 236, 127, 49, 117, 221, 108, 93, 218, 165, 72, 52, 155, 112, 78, 7, 31, 32, 150, 34] (Sha.forTags ++ [1]) = [153, 121, 251, 214, 174, 168, 78, 219, 245, 108, 4, 250, 108, 209, 204, 52, 129, 125, 172, 88, 142, 91, 144, 90, 115, 121, 220, 77, 181, 125, 251, 107] := by kernel_rfl
def keys1 : Value := .agg #[.string (str [175, 34, 229, 180, 255, 21, 238, 119, 141, 240, 208, 107, 121, 237, 247, 0, 95, 110, 181, 1, 138, 51, 88, 151, 210, 77, 244, 6, 35, 6, 210, 24]), .string (str [214, 162, 101, 238, 90, 251, 113, 98, 220, 230, 155, 211, 124, 230, 232, 216, 172, 222, 249, 211, 122, 121, 111, 213, 3, 163, 52, 47, 8, 133, 108, 177]), .string (str [99, 92, 220, 172, 47, 209, 125, 152, 245, 28, 243, 212, 52, 67, 4, 67, 159, 212, 28, 67, 33, 199, 164, 24, 178, 211, 127, 217, 175, 83, 194, 69])]
def keys2 : Value := .agg #[.string (str [102, 151, 195, 209, 36, 59, 64, 121, 44, 129, 251, 219, 255, 16, 143, 176, 45, 108, 41, 96, 32, 27, 91, 92, 148, 223, 69, 112, 176, 143, 58, 128]), .string (str [153, 121, 251, 214, 174, 168, 78, 219, 245, 108, 4, 250, 108, 209, 204, 52, 129, 125, 172, 88, 142, 91, 144, 90, 115, 121, 220, 77, 181, 125, 251, 107]), .string (str [99, 92, 220, 172, 47, 209, 125, 152, 245, 28, 243, 212, 52, 67, 4, 67, 159, 212, 28, 67, 33, 199, 164, 24, 178, 211, 127, 217, 175, 83, 194, 69])]
theorem keys1_eq : keysV [115] [115, 97, 108, 116, 4, 5, 6, 7, 8, 9, 10, 11, 12, 13, 14, 15] = keys1 := by
  simp only [keysV, Sha.encKey, Sha.macKey, Sha.headKey, exp32, t1, t2, enc, mac, head]; rfl
theorem keys2_eq : keysV [115] [] = keys2 := by
  simp only [keysV, Sha.encKey, Sha.macKey, Sha.headKey, exp32, t2, enc2, mac2, head]; rfl
def salt : List UInt8 := [115, 97, 108, 116, 4, 5, 6, 7, 8, 9, 10, 11, 12, 13, 14, 15]
theorem keys_at (a b : List UInt8) (h1 : a.length ≤ 1000) (h2 : b.length ≤ 1000) : Known Tryz.prog 89 [.string (str a), .string (str b)] (keysV a b) := fun _ =>
  Abs.Spec.of_flat (by simp [flat]) rfl fun w => keys_any (str a) (str b) w (by rw [str_size]; omega) (by rw [str_size]; omega)
theorem keys1_known : Known Tryz.prog 89 [.string (str [115]), .string (str salt)] keys1 := by
  have := keys_at [115] salt (by decide) (by decide)
  rw [show keysV [115] salt = keys1 from keys1_eq] at this
  exact this
theorem keys2_known : Known Tryz.prog 89 [.string (str [115]), .string (str [])] keys2 := by
  have := keys_at [115] [] (by decide) (by decide)
  rw [keys2_eq] at this
  exact this
end Go.Proofs.YtfdijpacbhomjaaGreatDoor.Ex
namespace Go.Proofs.YtfdijpacbhomjaaGreatDoor
open Go.RowKit Abs
theorem msum_at (x : Int) (v : Value) (xs : List ByteArray) (m : Mem) (hd : Rd m 1 v xs.length (xs.map .string)) (hlen : xs.length ≤ maxLen) (hsz : (joined xs).length ≤ 140737488355200) :
    Abs.Spec Tryz.prog 236 [.int .i64 x, v] m fun u M => u = .string (str (Sha.msum x (joined xs))) ∧ M = m :=
  Spec.of_below rfl fun ι w ys hy hr => by
    obtain ⟨a', b', rfl, ha, hb⟩ := vrels_two hy
    cases ha
    exact msum_any x b' xs w (Rd.strs hr hd hb) hlen hsz
theorem msum32 (l : List UInt8) : Sha.msum 32 l = Sha.sum l := by
  unfold Sha.msum
  rw [List.take_of_length_le]
  rw [Sha.sum_length]
  decide
theorem new_str2 (a b : ByteArray) : nBuildSlice Tryz.prog 36 2 [(0, .string a), (1, .string b)] = some (.cells false 1 [.string a, .string b]) := by kernel_rfl
theorem new_str3 (a b c : ByteArray) : nBuildSlice Tryz.prog 36 3 [(0, .string a), (1, .string b), (2, .string c)] = some (.cells false 1 [.string a, .string b, .string c]) := by kernel_rfl
theorem rd_new (m : Mem) (n : Nat) (cs : List Value) (k : Nat) (hk : cs.length = k * n) (hm : k ≤ maxLen) : Rd (m.push (.cells false n cs)) n (.slice (some ⟨m.size, 0, none⟩) k k) k cs :=
  ⟨_, _, rfl, hk, Nat.le_refl _, hm, (fun h => by cases h), fun p hp => ⟨_, (Option.some.inj hp).symm, fun _ => ⟨false, Mem.get_push_new _ _⟩⟩⟩
set_option maxRecDepth 100000 in
set_option maxHeartbeats 2000000 in
theorem leaf_at (s : List UInt8) (hs : s.length ≤ 1000000) (m : Mem) : Abs.Spec Tryz.prog 168 [.int .i64 32, .string (str s)] m fun u M => u = .string (str (leafV s)) ∧ M = m := by
  refine Abs.Spec.of_empty (by intro x hx; simp at hx; rcases hx with rfl | rfl <;> rfl) rfl ?_ m
  refine WM Tryz.func168 Tryz.results168 Tryz.ntmps168 fun _ => ?_
  have hj : joined [str [0], str s] = 0 :: s := by simp [joined, str]
  refine CW_seq (R0 ?_)
  refine CW_seq (R1 @new_str2 ?_)
  refine K0 (msum_at 32 _ [str [0], str s] _ (rd_new _ 1 _ 2 rfl (by decide)) (show 2 ≤ maxLen by decide) (by rw [hj]; simp only [List.length_cons]; omega)) ?_
  refine T0 ?_
  exact ⟨_, Thin.refl _, by rw [hj, msum32]; rfl⟩
set_option maxRecDepth 100000 in
set_option maxHeartbeats 2000000 in
theorem node_at (a b : List UInt8) (ha : a.length ≤ 1000000) (hb : b.length ≤ 1000000) (m : Mem) : Abs.Spec Tryz.prog 238 [.int .i64 32, .string (str a), .string (str b)] m fun u M => u = .string (str (Sha.sum (1 :: (a ++ b)))) ∧ M = m := by
  refine Abs.Spec.of_empty (by intro x hx; simp at hx; rcases hx with rfl | rfl | rfl <;> rfl) rfl ?_ m
  refine WM Tryz.func238 Tryz.results238 Tryz.ntmps238 fun _ => ?_
  have hj : joined [str [1], str a, str b] = 1 :: (a ++ b) := by simp [joined, str]
  refine CW_seq (R0 ?_)
  refine CW_seq (R1 @new_str3 ?_)
  refine K0 (msum_at 32 _ [str [1], str a, str b] _ (rd_new _ 1 _ 3 rfl (by decide)) (show 3 ≤ maxLen by decide) (by rw [hj]; simp only [List.length_cons, List.length_append]; omega)) ?_
  refine T0 ?_
  exact ⟨_, Thin.refl _, by rw [hj, msum32]⟩
end Go.Proofs.YtfdijpacbhomjaaGreatDoor
namespace Go.Proofs.YtfdijpacbhomjaaGreatDoor
open Go.RowKit Abs
noncomputable def keysF (a b : List UInt8) : Value := .agg #[.string (str (Sha.tagF (Sha.tagF b a) (Sha.forBytes ++ [1]))), .string (str (Sha.tagF (Sha.tagF b a) (Sha.forTags ++ [1]))), .string (str (Sha.tagF (Sha.tagF [] a) (Sha.forHeads ++ [1])))]
theorem keysF_eq (a b : List UInt8) : keysF a b = keysV a b := by
  unfold keysF keysV Sha.encKey Sha.macKey Sha.headKey
  simp only [Sha.tagF_eq, Ex.exp32]
noncomputable def keysG (ys : List Value) : Option Value := match ys with
  | [.string a, .string b] => bif Nat.ble a.size 1000 then bif Nat.ble b.size 1000 then some (keysF a.data.toList b.data.toList) else none else none
  | _ => none
theorem keysG_known (ys : List Value) (v : Value) (h : keysG ys = some v) : Known Tryz.prog 89 ys v := by
  unfold keysG at h
  split at h <;> first | (cases h; done) | skip
  rename_i k s
  cases h1 : Nat.ble k.size 1000 <;> rw [h1] at h <;> first | (cases h; done) | skip
  cases h2 : Nat.ble s.size 1000 <;> rw [h2] at h <;> first | (cases h; done) | skip
  cases h
  have h1 := Nat.le_of_ble_eq_true h1
  have h2 := Nat.le_of_ble_eq_true h2
  rw [keysF_eq]
  exact Ex.keys_at k.data.toList s.data.toList (by simpa using h1) (by simpa using h2)
noncomputable def leafG (ys : List Value) : Option Value := match ys with
  | [.int .i64 (.ofNat n), .string a] => bif Nat.beq n 32 then bif Nat.ble a.size 1000000 then some (.string (str (Sha.sumF (0 :: a.data.toList)))) else none else none
  | _ => none
theorem leafG_known (ys : List Value) (v : Value) (h : leafG ys = some v) : Known Tryz.prog 168 ys v := by
  unfold leafG at h
  split at h <;> first | (cases h; done) | skip
  rename_i n a
  cases h1 : Nat.beq n 32 <;> rw [h1] at h <;> first | (cases h; done) | skip
  cases h2 : Nat.ble a.size 1000000 <;> rw [h2] at h <;> first | (cases h; done) | skip
  cases h
  have h1 := Nat.eq_of_beq_eq_true h1
  have h2 := Nat.le_of_ble_eq_true h2
  subst h1
  rw [Sha.sumF_eq]
  exact fun m => leaf_at a.data.toList (by simpa using h2) m
noncomputable def nodeG (ys : List Value) : Option Value := match ys with
  | [.int .i64 (.ofNat n), .string a, .string b] => bif Nat.beq n 32 then bif Nat.ble a.size 1000000 then bif Nat.ble b.size 1000000 then some (.string (str (Sha.sumF (1 :: (a.data.toList ++ b.data.toList))))) else none else none else none
  | _ => none
theorem nodeG_known (ys : List Value) (v : Value) (h : nodeG ys = some v) : Known Tryz.prog 238 ys v := by
  unfold nodeG at h
  split at h <;> first | (cases h; done) | skip
  rename_i n a b
  cases h1 : Nat.beq n 32 <;> rw [h1] at h <;> first | (cases h; done) | skip
  cases h2 : Nat.ble a.size 1000000 <;> rw [h2] at h <;> first | (cases h; done) | skip
  cases h3 : Nat.ble b.size 1000000 <;> rw [h3] at h <;> first | (cases h; done) | skip
  cases h
  have h1 := Nat.eq_of_beq_eq_true h1
  have h2 := Nat.le_of_ble_eq_true h2
  have h3 := Nat.le_of_ble_eq_true h3
  subst h1
  rw [Sha.sumF_eq]
  exact fun m => node_at a.data.toList b.data.toList (by simpa using h2) (by simpa using h3) m
def keysTab : List (FuncId × List Value × Value) := [(89, [.string (str [115]), .string (str Ex.salt)], Ex.keys1), (89, [.string (str [115]), .string (str [])], Ex.keys2)]
theorem keysTab_known : ∀ e ∈ keysTab, Known Tryz.prog e.1 e.2.1 e.2.2 := by
  intro e he
  simp only [keysTab, List.mem_cons, List.not_mem_nil, or_false] at he
  rcases he with rfl | rfl
  · exact Ex.keys1_known
  · exact Ex.keys2_known
noncomputable def sumsT (T : Caller) : Caller := alsoT (tabT keysTab) (flatT 89 keysG (flatT 168 leafG (flatT 238 nodeG (tagT T))))
theorem sumsT_good {T : Caller} (hT : Abs.Good Tryz.prog T) : Abs.Good Tryz.prog (sumsT T) := alsoT_good (tabT_good keysTab keysTab_known) (flatT_good (flatT_good (flatT_good (tagT_good hT) nodeG_known) leafG_known) keysG_known)
noncomputable def depT (T : Caller) : Caller := nextT (fCall Tryz.prog (syncT (libT T)) 1000 30) (syncT (libT (sumsT T)))
theorem depT_good {T : Caller} (hT : Abs.Good Tryz.prog T) : Abs.Good Tryz.prog (depT T) := nextT_good (fCall_good hmix (syncT_good (libT_good hT)) 1000 30) (syncT_good (libT_good (sumsT_good hT)))
end Go.Proofs.YtfdijpacbhomjaaGreatDoor
namespace Go.Proofs.YtfdijpacbhomjaaGreatDoor
open Go.RowKit Abs
def salt32 : List UInt8 := [240, 94, 130, 124, 61, 45, 104, 161, 23, 6, 253, 168, 33, 106, 6, 75]
def enc32 : List UInt8 := [182, 143, 138, 108, 245, 66, 165, 250, 26, 210, 151, 44, 45, 179, 136, 252, 170, 2, 182, 32, 11, 252, 92, 216, 118, 110, 231, 224, 134, 156, 40, 194]
def mac32 : List UInt8 := [94, 52, 57, 88, 51, 24, 255, 206, 182, 105, 5, 230, 172, 209, 68, 130, 213, 60, 230, 91, 73, 118, 224, 90, 232, 230, 92, 61, 148, 240, 4, 131]
def head32 : List UInt8 := [99, 92, 220, 172, 47, 209, 125, 152, 245, 28, 243, 212, 52, 67, 4, 67, 159, 212, 28, 67, 33, 199, 164, 24, 178, 211, 127, 217, 175, 83, 194, 69]
def ciph32 : List UInt8 := [38, 99, 12, 178, 206, 87, 188, 9, 106, 42, 173, 171, 147, 157, 17, 159, 52, 163, 123, 218, 160, 31, 17, 90, 3, 84, 64, 176, 143, 237, 57, 76, 205, 196, 3, 20, 74, 11, 107, 126, 94, 255, 119, 226, 142, 150, 235, 94, 124, 147, 5, 222, 80, 218, 234, 236, 104, 84, 6, 249, 43, 246, 226, 174, 168, 251, 120, 30, 183, 230, 154, 21, 132, 245, 137, 80, 45, 31, 186, 73, 97, 98, 172, 238, 212, 18, 23, 80, 9, 205, 112, 92, 98, 251, 135, 33, 62, 135, 73, 126, 81, 74, 164, 254, 76, 119, 134, 51, 76, 122, 108, 167, 159, 190, 201, 245, 24, 237, 102, 33, 23, 149, 5, 197, 66, 9, 230, 32, 9, 105, 247, 80, 64, 40, 207, 111, 120, 247, 129, 190, 95, 223, 35, 101, 171, 50, 41, 254, 75, 163, 27, 218, 221, 185, 216, 181, 75, 139, 103, 243, 181, 35, 152, 42, 147, 13, 244, 173, 96, 195, 189, 6, 224, 66, 242, 70, 107, 35, 140, 48, 93, 120, 50, 67, 178, 91, 101, 93, 239, 178, 32, 70]
def keys32 : Value := .agg #[.string (str enc32), .string (str mac32), .string (str head32)]
set_option maxRecDepth 100000 in
theorem keys32_eq : keysF [115] salt32 = keys32 := by kernel_rfl
theorem keys32_known : Known Tryz.prog 89 [.string (str [115]), .string (str salt32)] keys32 := by
  have := Ex.keys_at [115] salt32 (by decide) (by decide)
  rw [← keysF_eq, keys32_eq] at this
  exact this
end Go.Proofs.YtfdijpacbhomjaaGreatDoor
namespace Go.Proofs.YtfdijpacbhomjaaGreatDoor
open Go.RowKit Abs
set_option maxRecDepth 100000 in
theorem s32Salt : Known Tryz.prog 54 [.int .i64 1] (.string (str salt32)) :=
  known_of_run hmix noT_good (L := 100000) (n := 60) (fl1 rfl) rfl (by kernel_rfl)
end Go.Proofs.YtfdijpacbhomjaaGreatDoor
namespace Go.Proofs.YtfdijpacbhomjaaGreatDoor
open Go.RowKit Abs
set_option maxRecDepth 100000 in
theorem s32Xord : Known Tryz.prog 163 [.string (str enc32), .string (str nonce19), .int .i64 1, .string (str chunk19)] (.tuple #[.string (str ciph32), .int .i64 0]) :=
  known_of_run hmix noT_good (L := 100000) (n := 60) (fl1 rfl) rfl (by kernel_rfl)
end Go.Proofs.YtfdijpacbhomjaaGreatDoor
namespace Go.Proofs.YtfdijpacbhomjaaGreatDoor
open Go.RowKit Abs
set_option maxRecDepth 100000 in
theorem s19Simple : Known Tryz.prog 231 [.string (str in19)] (.string (str out19)) :=
  known_of_run hmix solT_good (L := 100000) (n := 60) (fl1 rfl) rfl (by kernel_rfl)
end Go.Proofs.YtfdijpacbhomjaaGreatDoor
namespace Go.Proofs.YtfdijpacbhomjaaGreatDoor
open Go.RowKit Abs
set_option maxRecDepth 100000 in
theorem s19Rich : Known Tryz.prog 232 [.string (str in19)] (.string (str rich19)) :=
  known_of_run hmix solT_good (L := 100000) (n := 60) (fl1 rfl) rfl (by kernel_rfl)
end Go.Proofs.YtfdijpacbhomjaaGreatDoor
namespace Go.Proofs.YtfdijpacbhomjaaGreatDoor
open Go.RowKit Abs
def tab32 : List (FuncId × List Value × Value) := [
  (231, [.string (str in19)], .string (str out19)),
  (232, [.string (str in19)], .string (str rich19)),
  (54, [.int .i64 (.ofNat 1)], .string (str salt32)),
  (163, [.string (str enc32), .string (str nonce19), .int .i64 (.ofNat 1), .string (str chunk19)], .tuple #[.string (str ciph32), .int .i64 (.ofNat 0)]),
  (89, [.string (str [115]), .string (str salt32)], keys32)]
theorem tab32_known : ∀ e ∈ tab32, Known Tryz.prog e.1 e.2.1 e.2.2 := by
  intro e he
  simp only [tab32, List.mem_cons, List.not_mem_nil, or_false] at he
  rcases he with rfl | rfl | rfl | rfl | rfl
  · exact s19Simple
  · exact s19Rich
  · exact s32Salt
  · exact s32Xord
  · exact keys32_known
noncomputable def T32 : Caller := alsoT (tabT tab32) (depT solT)
theorem T32_good : Abs.Good Tryz.prog T32 := alsoT_good (tabT_good tab32 tab32_known) (depT_good solT_good)
end Go.Proofs.YtfdijpacbhomjaaGreatDoor
namespace Go.Proofs.YtfdijpacbhomjaaGreatDoor
open Go.RowKit Abs
set_option maxRecDepth 100000 in
theorem awake33_spec : Known Tryz.prog 19 [] (.bool true) := known_of_run (xs := []) (v := .bool true) hmix T32_good (L := 100000) (n := 60) (fun x hx => by cases hx) rfl (by kernel_rfl)
end Go.Proofs.YtfdijpacbhomjaaGreatDoor
--LONG
/-
  The law of chapter 33: the model's soundness is the reference's.
-/
namespace Go.Proofs.YtfdijpacbhomjaaGreatDoor
open Go.RowKit Abs
theorem flat_ints : ∀ l : List Int, l.flatMap (fun x => [Value.int .i64 x]) = l.map fun x => .int .i64 x
  | [] => rfl
  | a :: r => by rw [List.flatMap_cons, flat_ints r]; rfl
theorem flat_strs : ∀ l : List ByteArray, l.flatMap (fun s => [Value.string s]) = l.map .string
  | [] => rfl
  | a :: r => by rw [List.flatMap_cons, flat_strs r]; rfl
theorem rep_strs {m : Mem} {B : Nat} {cs : List Value} (h : ARep Tryz.prog m B 36 cs) : ∃ v ss, cs = [v] ∧ BlR m v ss ∧ ss.length ≤ B := by
  obtain ⟨v, ss, hv, hr, hlen, _⟩ := ARep.list (fun s : ByteArray => [Value.string s]) (fun _ => True) (n := 1) Tryz.underlying36 (by kernel_rfl) (fun cs hc => by
    obtain ⟨s, rfl, _⟩ := hc.inv_string Tryz.underlying9
    exact ⟨s, rfl, trivial⟩) h
  rw [flat_strs] at hr
  exact ⟨v, ss, hv, hr, hlen.1⟩
theorem rep_ints {m : Mem} {B : Nat} {cs : List Value} (h : ARep Tryz.prog m B 50 cs) : ∃ v xs, cs = [v] ∧ InR m v xs ∧ xs.length ≤ B := by
  obtain ⟨v, ss, hv, hr, hlen, _⟩ := ARep.list (fun s : Int => [Value.int .i64 s]) (fun _ => True) (n := 1) Tryz.underlying50 (by kernel_rfl) (fun cs hc => by
    obtain ⟨s, rfl, _⟩ := hc.inv_int Tryz.underlying3
    exact ⟨s, rfl, trivial⟩) h
  rw [flat_ints] at hr
  exact ⟨v, ss, hv, hr, hlen.1⟩
set_option maxRecDepth 100000 in
theorem rep_arch {m : Mem} {B : Nat} {cs : List Value} (h : ARep Tryz.prog m B 93 cs) : ∃ x : ArcX, cs = arcX x ∧ BlR m x.2.1 x.2.2 ∧ x.2.2.length ≤ B := by
  obtain ⟨hl, hf⟩ := h.inv_struct Tryz.underlying93
  have hl : cs.length = 8 := hl
  match cs, hl with
  | [c0, c1, c2, c3, c4, c5, c6, c7], _ =>
  obtain ⟨x, hx, _⟩ := rep_header (hf 0 _ rfl)
  obtain ⟨v, ss, hv, hr, hlen⟩ := rep_strs (hf 1 _ rfl)
  have hx2 : [c0, c1, c2, c3, c4, c5, c6] = x.cells := hx
  have hv2 : c7 = v := by
    have h : [c7] = [v] := hv
    simpa using h
  simp only [Header.cells, List.cons.injEq, and_true] at hx2
  obtain ⟨rfl, rfl, rfl, rfl, rfl, rfl, rfl⟩ := hx2
  subst hv2
  exact ⟨(x, c7, ss), rfl, hr, hlen⟩
set_option maxRecDepth 100000 in
theorem rep_part {m : Mem} {B : Nat} {cs : List Value} (h : ARep Tryz.prog m B 109 cs) : ∃ x : PartX, cs = partC x ∧ InR m x.gv x.got ∧ BlR m x.bv x.bl ∧ x.got.length ≤ B ∧ x.bl.length ≤ B := by
  obtain ⟨hl, hf⟩ := h.inv_struct Tryz.underlying109
  have hl : cs.length = 10 := hl
  match cs, hl with
  | [c0, c1, c2, c3, c4, c5, c6, c7, c8, c9], _ =>
  obtain ⟨x, hx, _⟩ := rep_header (hf 0 _ rfl)
  obtain ⟨n, hn, _⟩ := (hf 1 _ rfl).inv_int Tryz.underlying3
  obtain ⟨w, xs, hw, hrw, hlw⟩ := rep_ints (hf 2 _ rfl)
  obtain ⟨v, ss, hv, hr, hlen⟩ := rep_strs (hf 3 _ rfl)
  have hx2 : [c0, c1, c2, c3, c4, c5, c6] = x.cells := hx
  have hn2 : c7 = .int .i64 n := by
    have h : [c7] = [.int .i64 n] := hn
    simpa using h
  have hw2 : c8 = w := by
    have h : [c8] = [w] := hw
    simpa using h
  have hv2 : c9 = v := by
    have h : [c9] = [v] := hv
    simpa using h
  simp only [Header.cells, List.cons.injEq, and_true] at hx2
  obtain ⟨rfl, rfl, rfl, rfl, rfl, rfl, rfl⟩ := hx2
  subst hv2 hn2 hw2
  exact ⟨⟨x, n, c8, xs, c9, ss⟩, rfl, hrw, hr, hlw, hlen⟩
set_option maxRecDepth 100000 in
theorem arg_archs {m : Mem} {v : Value} (h : ArgOf Tryz.prog m reachBytes 47 v) : ∃ L : List ArcX, AxR m v L ∧ L.length ≤ 140737488355327 := by
  obtain ⟨v', xs, e1, h1, h2, h3⟩ := ARep.list arcX (fun x => BlR m x.2.1 x.2.2 ∧ x.2.2.length ≤ reachBytes) (n := 8) Tryz.underlying47 (by kernel_rfl) (fun cs hc => rep_arch hc) (arg_list Tryz.underlying47 h)
  cases e1
  have hB : reachBytes ≤ 140737488355327 := by unfold reachBytes; omega
  exact ⟨xs, ⟨h1, fun x hx => ⟨(h3 x hx).1, Nat.le_trans (h3 x hx).2 hB⟩⟩, Nat.le_trans h2.1 hB⟩
set_option maxRecDepth 100000 in
theorem arg_parts {m : Mem} {v : Value} (h : ArgOf Tryz.prog m reachBytes 54 v) : ∃ L : List PartX, PxR m v L := by
  obtain ⟨v', xs, e1, h1, h2, h3⟩ := ARep.list partC (fun x => InR m x.gv x.got ∧ BlR m x.bv x.bl ∧ x.got.length ≤ reachBytes ∧ x.bl.length ≤ reachBytes) (n := 10) Tryz.underlying54 (by kernel_rfl) (fun cs hc => rep_part hc) (arg_list Tryz.underlying54 h)
  cases e1
  have hB : reachBytes ≤ 140737488355327 := by unfold reachBytes; omega
  exact ⟨xs, h1, fun x hx => ⟨(h3 x hx).1, (h3 x hx).2.1, Nat.le_trans (h3 x hx).2.2.1 hB, Nat.le_trans (h3 x hx).2.2.2 hB⟩⟩
theorem bd_St (p q r : Option Addr) (n m k c d e : Nat) : aBuild Tryz.prog 61 [(0, .slice p n c), (1, .slice q m d), (2, .slice r k e)] = some (.agg #[.slice p n c, .slice q m d, .slice r k e]) := by kernel_rfl
theorem bd_Rt (p q r : Option Addr) (n m k c d e : Nat) : aBuild Tryz.prog 64 [(0, .slice p n c), (1, .slice q m d), (2, .slice r k e)] = some (.agg #[.slice p n c, .slice q m d, .slice r k e]) := by kernel_rfl
set_option maxRecDepth 100000 in
set_option maxHeartbeats 16000000 in
theorem model_sounds (M : Mem) (VP VK VL : Value) (P K : List ArcX) (L : List PartX) (hP : AxR M VP P) (hp : P.length ≤ 140737488355327) (hK : AxR M VK K) (hk : K.length ≤ 140737488355327) (hL : PxR M VL L) :
    Abs.Spec Tryz.prog 4 [VP, VK, VL] M fun u _ => u = .bool true := by
  obtain ⟨pP, cP, rfl⟩ := hP.len
  obtain ⟨pK, cK, rfl⟩ := hK.len
  obtain ⟨pL, cL, rfl⟩ := hL.len
  have b11 : ((some true : Option Bool) == some true) = true := rfl
  refine Abs.Spec.walkM Tryz.func4 (by rfl) _ Tryz.results4 _ Tryz.ntmps4 (by simp) ?_
  intro _ _ _
  refine CW_seq (CW_region ?_)
  simp only [zZ, reduceIte, Nat.reduceLT, Int.reduceToNat, Int.reduceLE, Int.reduceEq, Int.reduceLT, Nat.reduceEqDiff, Nat.reduceAdd, zDk, pd_eql, pd_neq, pd_eql0, pd_neq0, zPt]
  refine CW_seq (CW_region ?_)
  simp only [zZ, reduceIte, Nat.reduceLT, Int.reduceToNat, Int.reduceLE, Int.reduceEq, Int.reduceLT, Nat.reduceEqDiff, Nat.reduceAdd, zDk, pd_eql, pd_neq, pd_eql0, pd_neq0, zPt]
  refine ⟨by kernel_rfl, _, of33_spec L M _ hL, ?_⟩
  rintro _ M2 ⟨⟨VA, VB, B, rfl, hA, hB, hel, hBl⟩, mo2⟩
  have hA1 : OxR M2 VA (B.map Prod.fst) := ⟨hA.rd moC_len (by rw [List.length_map]; unfold maxLen; omega), fun x hx => by
    obtain ⟨y, hy, rfl⟩ := List.mem_map.1 hx
    exact ⟨(hel y hy).2.2.1.same mo2.get, (hel y hy).2.2.2, (hel y hy).2.1⟩⟩
  obtain ⟨pA, cA, rfl⟩ := hA1.len
  obtain ⟨pB, cB, rfl⟩ := hB.len
  simp only [zZ, reduceIte, Nat.reduceLT, Int.reduceToNat, Int.reduceLE, Int.reduceEq, Int.reduceLT, Nat.reduceEqDiff, Nat.reduceAdd, zDk, pd_eql, pd_neq, pd_eql0, pd_neq0, zPt]
  refine CW_seq (CW_region ?_)
  simp only [zZ, reduceIte, Nat.reduceLT, Int.reduceToNat, Int.reduceLE, Int.reduceEq, Int.reduceLT, Nat.reduceEqDiff, Nat.reduceAdd, zDk, pd_eql, pd_neq, pd_eql0, pd_neq0, zPt, bd_St]
  refine ⟨by kernel_rfl, _, msound_spec P K (B.map Prod.fst) hp hk (by rw [List.length_map]; omega) M2 _ _ _ (hP.same mo2.get) (hK.same mo2.get) hA1, ?_⟩
  rintro _ M3 ⟨rfl, mo3⟩
  have mo23 := mo2.trans mo3
  have hB3 : RxR M3 (.slice pB B.length cB) B := ⟨(hB.same fun b y _ hy => mo3.get b y hy).rd roC_len (by unfold maxLen; omega), fun y hy =>
    ⟨(hel y hy).2.2.1.same mo23.get, (hel y hy).2.2.2, (hel y hy).2.1, ((hel y hy).1.same fun b z _ hz => mo3.get b z hz).rd (fun _ => rfl) (by have := posB_len y.1.set; have := (hel y hy).2.1; unfold maxLen; omega)⟩⟩
  simp only [zZ, reduceIte, Nat.reduceLT, Int.reduceToNat, Int.reduceLE, Int.reduceEq, Int.reduceLT, Nat.reduceEqDiff, Nat.reduceAdd, zDk, pd_eql, pd_neq, pd_eql0, pd_neq0, zPt]
  refine CW_seq (CW_region ?_)
  simp only [zZ, reduceIte, Nat.reduceLT, Int.reduceToNat, Int.reduceLE, Int.reduceEq, Int.reduceLT, Nat.reduceEqDiff, Nat.reduceAdd, zDk, pd_eql, pd_neq, pd_eql0, pd_neq0, zPt, bd_Rt]
  refine ⟨by kernel_rfl, _, rsound_spec P K B hp hk (by omega) M3 _ _ _ (hP.same mo23.get) (hK.same mo23.get) hB3, ?_⟩
  rintro _ M4 ⟨rfl, mo4⟩
  have q1 : (soundV P K (B.map Prod.fst) == soundV P K (B.map Prod.fst)) = true := by simp
  simp only [zZ, reduceIte, Nat.reduceLT, Int.reduceToNat, Int.reduceLE, Int.reduceEq, Int.reduceLT, Nat.reduceEqDiff, Nat.reduceAdd, zDk, pd_eql, pd_neq, pd_eql0, pd_neq0, zPt, q1, b11]
  refine ⟨by kernel_rfl, _, awake33_spec _, ?_⟩
  rintro _ M9 ⟨rfl, e9⟩; replace e9 := e9.symm; subst e9
  simp only [zZ, reduceIte, Nat.reduceLT, Int.reduceToNat, Int.reduceLE, Int.reduceEq, Int.reduceLT, Nat.reduceEqDiff, Nat.reduceAdd, zDk, pd_eql, pd_neq, pd_eql0, pd_neq0, zPt]
  refine CW_ret ?_
  simp only [zZ, reduceIte, Nat.reduceLT, Int.reduceToNat, Int.reduceLE, Int.reduceEq, Int.reduceLT, Nat.reduceEqDiff, Nat.reduceAdd, zDk, pd_eql, pd_neq, pd_eql0, pd_neq0, zPt, mEnd, sAnswer, sAnswer.sRes]
  exact ⟨_, Thin.refl _⟩
end Go.Proofs.YtfdijpacbhomjaaGreatDoor
