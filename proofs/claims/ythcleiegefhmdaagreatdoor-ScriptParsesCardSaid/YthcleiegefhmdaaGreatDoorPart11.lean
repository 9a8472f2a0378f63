/-
  The walk of path.Check: a range over a function of its own that keeps the rest of the path in a cell. Over worlds.
  The law's example: chapter 36's script is parsed, and printed.
  The plain law: what was parsed is printed as a text that is parsed as it was.
  The law ScriptParses: any text is the script that the document says.
  How a card's row follows from its law's walk: the listed variables hold what the program's text lays.
-/
import Derived.RangeFuncNested
import Derived.RangeFuncBound
import Derived.RangeFuncBox
import Derived.RangeFuncRecord
import Derived.RangeFuncCalls
import Derived.RangeFuncLeaves
import Derived.Shelf.Abstract
import Derived.Shelf.RegionOpen
import Derived.WalkKit
import Derived.OwnWalkIn
import Derived.TacticsInMore
import Derived.LoopNIn
import Derived.LoopIn
import Derived.Test.YthcleiegefhmdaaGreatDoorPart08
import Derived.Test.YthcleiegefhmdaaGreatDoorPart07
import Derived.Test.YthcleiegefhmdaaGreatDoorChecked
import Derived.Test.YthcleiegefhmdaaGreatDoorPart10
import Derived.Test.YthcleiegefhmdaaGreatDoorPart05
import Derived.Test.YthcleiegefhmdaaGreatDoorPart06
import Derived.Test.YthcleiegefhmdaaGreatDoorCards
import Derived.Test.YthcleiegefhmdaaGreatDoorTie
import Derived.Deep.DeepHandedRow
import Derived.Lib.LaidTab
import Derived.Lib.LaidU8
import Derived.Lay
import Derived.MakeChecks
import Derived.Shelf.Vars
set_option linter.unusedSimpArgs false
set_option linter.unusedVariables false
set_option linter.unusedSectionVars false
set_option linter.unnecessarySimpa false
set_option linter.defProp false
namespace Go.Proofs.YthcleiegefhmdaaGreatDoor
open Go Go.RowKit Go.Shelf
attribute [local go_sem] Oper.semAt_some
set_option maxRecDepth 100000 in
set_option maxHeartbeats 1000000 in
theorem parts_in (F : Fence) (n : Nat) (hf : F.fn 72) (hro : F.round = none) (s : ByteArray) (w : World) :
    CallsIn F n Tryz.prog 72 #[.string s] w fun e w' => e = .returned (.func (.func 82) #[] #[.pointer (some ⟨w.heap.size, 0, none⟩)]) ∧ w' = w.alloc (.cells #[.string s] 9) := by
  refine callsIn_of_wp Tryz.func72 rfl hf ?_ hro
  simp only [Tryz.ntmps72, List.size_toArray, List.length_cons, List.length_nil, Nat.reduceAdd, Nat.reduceSub, Array.replicate_succ, Array.replicate_zero, List.push_toArray, List.append_toArray, List.nil_append, List.cons_append]
  gi_wp2
  go_ret
  exact ⟨rfl, rfl⟩
theorem toList_str (x : List UInt8) : (str x).toList = x := Lib.toList_data _
def badP (x : List UInt8) : Bool := decide (x = []) || decide (x = [46]) || decide (x = [46, 46])
theorem cut1_split (r : List UInt8) : (∃ a b, r = a ++ 47 :: b ∧ cut1 47 r [] = (a, b, true) ∧ pieces 47 r [] = a :: pieces 47 b []) ∨ (cut1 47 r [] = (r, [], false) ∧ pieces 47 r [] = [r]) := by
  rcases index_miss r 47 with h | ⟨a, b, h1, h2, _⟩
  · have hn := index_not r 47 h
    exact .inr ⟨by rw [cut1_not 47 r _ hn]; rfl, by rw [pieces_not 47 r _ hn]; rfl⟩
  · refine .inl ⟨a, b, h1, ?_, ?_⟩
    · rw [h1, cut1_at 47 a b _ h2]; rfl
    · rw [h1, pieces_at 47 a b _ h2]; rfl
def boxLen (B : Nat) (W : World) : Nat := match W.cell? ⟨B, 0, none⟩ with
  | some (.string s) => s.size
  | _ => 0
theorem boxLen_eq {B : Nat} {W : World} {r : List UInt8} (h : W.cell? ⟨B, 0, none⟩ = some (.string (str r))) : boxLen B W = r.length := by
  unfold boxLen; rw [h]; exact str_size r
set_option maxRecDepth 100000 in
set_option maxHeartbeats 2000000 in
theorem iter_in (n : Nat) (l B : Nat) (k : Int) (J J2 : List UInt8 → World → Prop) (Jx : World → Prop)
    (hJb : ∀ r W, J r W → W.cell? ⟨B, 0, none⟩ = some (.string (str r)) ∧ W.cell? ⟨0, 0, none⟩ = some (.int .i64 k) ∧ r.length ≤ 1000000)
    (hJ2b : ∀ r W, J2 r W → W.cell? ⟨B, 0, none⟩ = some (.string (str r)) ∧ W.frozen? ⟨B, 0, none⟩ = false)
    (hJd : ∀ r W d, J r W → J r (W.drewN d))
    (hJs : ∀ r a b W, J2 r W → badP a = false → r = a ++ 47 :: b → cut1 47 r [] = (a, b, true) → J b (W.setCell ⟨B, 0, none⟩ (.string (str b))))
    (hY : ∀ r W, J r W → YieldAt Fence.wide (n - 1) Tryz.prog l #[.string (str (cut1 47 r []).1)] W fun e W' => (e = .returned (.bool true) ∧ badP (cut1 47 r []).1 = false ∧ J2 r W') ∨ (e = .returned (.bool false) ∧ Jx W'))
    (s : List UInt8) (w : World) (h0 : J s w) :
    CallsIn Fence.wide n Tryz.prog 82 #[.func (.yield l) #[] #[], .pointer (some ⟨B, 0, none⟩)] w fun e W => (∃ v, e = .returned v) ∧ ((∃ r, cut1 47 r [] = (r, [], false) ∧ badP r = false ∧ J2 r W) ∨ Jx W) := by
  refine callsIn_of_wp Tryz.func82 rfl trivial ?_ rfl
  simp only [Tryz.ntmps82, List.size_toArray, List.length_cons, List.length_nil, Nat.reduceAdd, Nat.reduceSub, Array.replicate_succ, Array.replicate_zero, List.push_toArray, List.append_toArray, List.nil_append, List.cons_append]
  gi_wp2
  gi_loopw [3] (fun _ wr => ∃ r, J r wr) (fun _ wr => boxLen B wr)
  case atStart => exact ⟨s, h0⟩
  case round =>
    obtain ⟨r, hJ⟩ := hrel
    obtain ⟨hb, hk, hr⟩ := hJb r wr hJ
    have hcut := Tryz.strings_Cut (str r) ⟨#[47]⟩ k wr (by rw [str_size]; omega) hk
    have e1 : Lib.cut (str r).data.toList (⟨#[47]⟩ : ByteArray).data.toList = cut1 47 r [] := cut_eq r 47
    rw [e1] at hcut
    have hlen := boxLen_eq hb
    have hY1 := hY r
    obtain ⟨x, y, ok, hc⟩ : ∃ x y ok, cut1 47 r [] = (x, y, ok) := ⟨_, _, _, rfl⟩
    rw [hc] at hcut hY1
    simp only at hcut hY1
    replace hcut : Calls Tryz.prog 44 #[.string (str r), .string ⟨#[47]⟩] wr fun e w' => e = .returned (.tuple #[.string (str x), .string (str y), .bool ok]) ∧ ∃ d, w' = wr.drewN d := hcut
    have arm : ∀ {P : Prop}, P → Fence.wide.fn 44 ∧ (Fence.wide.depth.isSome = true → 1 ≤ n) ∧ P := fun h => ⟨trivial, (fun h => by cases h), h⟩
    have hYd := fun d => hY1 _ (hJd _ _ d hJ)
    clear hY1
    cases ok
    · gi_wp2_with (first
        | (refine arm ?_; refine (callsIn_wide.2 hcut).mono ?_; rintro e w1 ⟨rfl, d, rfl⟩; obtain ⟨fn, tmps, assign, body, hy, hR⟩ := hYd d))
      refine ⟨(fun h => by cases h), ?_⟩
      refine hR.mono ?_
      rintro e W3 (⟨rfl, hg, hJ3⟩ | ⟨rfl, hJx⟩)
      · gi_wp2
        refine bodyPost_ret (results_none rfl _ _ _) rfl ?_
        refine ⟨⟨_, rfl⟩, .inl ⟨r, ?_, ?_, hJ3⟩⟩
        · rcases cut1_split r with ⟨a, b, _, h, _⟩ | ⟨h, _⟩
          · rw [hc] at h; cases h
          · exact h
        · rcases cut1_split r with ⟨a, b, _, h, _⟩ | ⟨h, _⟩
          · rw [hc] at h; cases h
          · rw [hc] at h; cases h; exact hg
      · gi_wp2
        refine bodyPost_ret (results_none rfl _ _ _) rfl ?_
        exact ⟨⟨_, rfl⟩, .inr hJx⟩
    · gi_wp2_with (first
        | (refine arm ?_; refine (callsIn_wide.2 hcut).mono ?_; rintro e w1 ⟨rfl, d, rfl⟩; obtain ⟨fn, tmps, assign, body, hy, hR⟩ := hYd d))
      refine ⟨(fun h => by cases h), ?_⟩
      refine hR.mono ?_
      rintro e W3 (⟨rfl, hg, hJ3⟩ | ⟨rfl, hJx⟩)
      · obtain ⟨hb3, hf3⟩ := hJ2b r W3 hJ3
        gi_wp2
        have hsp : r = x ++ 47 :: y := by
          rcases cut1_split r with ⟨a, b, h1, h, _⟩ | ⟨h, _⟩
          · rw [hc] at h; cases h; exact h1
          · rw [hc] at h; cases h
        have hJ4 := hJs r x y W3 hJ3 hg hsp hc
        go_roundw
        case rel => exact ⟨y, hJ4⟩
        case measure => rw [boxLen_eq (hJb _ _ hJ4).1, hlen, hsp]; simp; omega
      · gi_wp2
        refine bodyPost_ret (results_none rfl _ _ _) rfl ?_
        exact ⟨⟨_, rfl⟩, .inr hJx⟩
theorem pathV_bad {s : List UInt8} (h : s = [] ∨ 4096 < s.length ∨ 0 ∈ s ∨ (pieces 47 s []).any badP = true) : pathV s = 5 := by
  unfold pathV; exact if_pos h
theorem pathV_good {s : List UInt8} (h1 : s ≠ []) (h2 : ¬ 4096 < s.length) (h3 : ¬ 0 ∈ s) (h4 : (pieces 47 s []).any badP = false) : pathV s = 0 := by
  unfold pathV
  refine if_neg ?_
  rintro (h | h | h | h)
  · exact h1 h
  · exact h2 h
  · exact h3 h
  · exact absurd ((show (pieces 47 s []).any badP = true from h).symm.trans h4) (by decide)
theorem has_zero {s : List UInt8} (h : decide (0 ≤ Lib.indexByte (str s).data.toList 0) = true) : 0 ∈ s := by
  rcases index_miss s 0 with h' | ⟨a, b, h1, _, _⟩
  · have := of_decide_eq_true h
    rw [str_data, h'] at this
    exact absurd this (by decide)
  · rw [h1]; simp
theorem zero_has {s : List UInt8} (h : 0 ∈ s) : decide (0 ≤ Lib.indexByte (str s).data.toList 0) = true := by
  rcases index_miss s 0 with h' | ⟨a, b, h1, _, h3⟩
  · exact absurd h (index_not s 0 h')
  · rw [str_data, h3]; exact decide_eq_true (by omega)
structure St (rec : LoopState → Option Code → Loop) (w : World) (st : LoopState) (pe : Option Code) (v : Int) (r : List UInt8) (W : World) : Prop where
  below : Below w.heap.size w W
  ans : W.heap[w.heap.size]? = some (.cells #[.int .i64 v] 27 (0, 0))
  box : W.heap[w.heap.size + 1]? = some (.cells #[.string (str r)] 9 (0, 0))
  dfr : W.heap[w.heap.size + 2]? = some (.deferred (some []))
  loop : W.heap[w.heap.size + 3]? = some (.loop (rec st pe))
section st
variable {rec : LoopState → Option Code → Loop} {w : World} {st : LoopState} {pe : Option Code} {v : Int} {r : List UInt8} {W : World}
theorem St.put (h : St rec w st pe v r W) (st' : LoopState) (pe' : Option Code) : St rec w st' pe' v r (W.putObj (w.heap.size + 3) (.loop (rec st' pe'))) :=
  ⟨h.below.grown (grownBy_putObj' _ _ _) h.below.size (fun k e => by cases e; omega), (World.putObj_heap_other (by omega)).trans h.ans, (World.putObj_heap_other (by omega)).trans h.box,
   (World.putObj_heap_other (by omega)).trans h.dfr, World.putObj_heap_same (Array.getElem?_eq_some_iff.1 h.loop).1⟩
theorem St.setAns (h : St rec w st pe v r W) (v' : Int) : St rec w st pe v' r (W.setCell ⟨w.heap.size, 0, none⟩ (.int .i64 v')) :=
  ⟨h.below.setCell (Nat.le_refl _) _, Boxed.set _ h.ans, (Below.heap_setCell _ _ _ _ (by simp)).trans h.box, (Below.heap_setCell _ _ _ _ (by simp)).trans h.dfr, (Below.heap_setCell _ _ _ _ (by simp)).trans h.loop⟩
theorem St.setBox (h : St rec w st pe v r W) (r' : List UInt8) : St rec w st pe v r' (W.setCell ⟨w.heap.size + 1, 0, none⟩ (.string (str r'))) :=
  ⟨h.below.setCell (Nat.le_succ _) _, (Below.heap_setCell _ _ _ _ (by simp)).trans h.ans, Boxed.set _ h.box, (Below.heap_setCell _ _ _ _ (by simp)).trans h.dfr, (Below.heap_setCell _ _ _ _ (by simp)).trans h.loop⟩
theorem St.drew (h : St rec w st pe v r W) (d : Nat) : St rec w st pe v r (W.drewN d) := ⟨h.below.trans ⟨rfl, rfl, rfl, Nat.le_refl _, fun _ _ => rfl⟩, h.ans, h.box, h.dfr, h.loop⟩
theorem St.ansCell (h : St rec w st pe v r W) : W.cell? ⟨w.heap.size, 0, none⟩ = some (.int .i64 v) := Boxed.cell h.ans
theorem St.ansFree (h : St rec w st pe v r W) : W.frozen? ⟨w.heap.size, 0, none⟩ = false := Boxed.frozen h.ans
theorem St.boxCell (h : St rec w st pe v r W) : W.cell? ⟨w.heap.size + 1, 0, none⟩ = some (.string (str r)) := Boxed.cell h.box
theorem St.boxFree (h : St rec w st pe v r W) : W.frozen? ⟨w.heap.size + 1, 0, none⟩ = false := Boxed.frozen h.box
theorem St.cell0 (h : St rec w st pe v r W) {x : Value} (hk : w.cell? ⟨0, 0, none⟩ = some x) : W.cell? ⟨0, 0, none⟩ = some x := by
  have h0 : 0 < w.heap.size := by
    unfold World.cell? at hk
    cases he : w.heap[0]? with
    | none => simp only [he] at hk; cases hk
    | some o => exact (Array.getElem?_eq_some_iff.1 he).1
  exact (h.below.cell (p := ⟨0, 0, none⟩) h0).trans hk
end st
structure Done (w : World) (v : Int) (W : World) : Prop where
  below : Below w.heap.size w W
  ans : W.heap[w.heap.size]? = some (.cells #[.int .i64 v] 27 (0, 0))
  dfr : W.heap[w.heap.size + 2]? = some (.deferred (some []))
theorem four_heap (w : World) (a b c d : Obj) : ((((w.alloc a).alloc b).alloc c).alloc d).heap[w.heap.size]? = some a ∧ ((((w.alloc a).alloc b).alloc c).alloc d).heap[w.heap.size + 1]? = some b ∧
    ((((w.alloc a).alloc b).alloc c).alloc d).heap[w.heap.size + 2]? = some c ∧ ((((w.alloc a).alloc b).alloc c).alloc d).heap[w.heap.size + 3]? = some d := by
  have z1 : (w.alloc a).heap.size = w.heap.size + 1 := by simp
  have z2 : ((w.alloc a).alloc b).heap.size = w.heap.size + 2 := by simp
  have z3 : (((w.alloc a).alloc b).alloc c).heap.size = w.heap.size + 3 := by simp
  have n1 := World.alloc_heap_new (w.alloc a) b
  have n2 := World.alloc_heap_new ((w.alloc a).alloc b) c
  have n3 := World.alloc_heap_new (((w.alloc a).alloc b).alloc c) d
  rw [z1] at n1; rw [z2] at n2; rw [z3] at n3
  exact ⟨(Below.heap_alloc _ _ _ (by omega)).trans ((Below.heap_alloc _ _ _ (by omega)).trans ((Below.heap_alloc _ _ _ (by omega)).trans (World.alloc_heap_new w a))),
    (Below.heap_alloc _ _ _ (by omega)).trans ((Below.heap_alloc _ _ _ (by omega)).trans n1), (Below.heap_alloc _ _ _ (by omega)).trans n2, n3⟩
theorem range_law (s : List UInt8) (hs : s.length ≤ 1000000) (k : Int) (w : World) (hk : w.cell? ⟨0, 0, none⟩ = some (.int .i64 k)) {g : Operand} {assign body : Code} {Q : Exit → Act → World → Prop} {tm : Array Value}
    (hg : ({ tmps := tm, defers := [] } : Act).eval g = .func (.func 82) #[] #[.pointer (some ⟨w.heap.size + 1, 0, none⟩)]) (a₁ : List UInt8 → Act)
    (hassign : ∀ (l : Nat) (x : List UInt8) (W : World) (K : Act → World → Prop), K (a₁ x) W → assign.wpIn (Fence.wide.inRound l) 3 Tryz.prog (Exit.then K (fun _ _ _ => False)) { tmps := ((#[17] : Array Tmp).zip #[Value.string (str x)]).foldl (fun t (p, v) => t.setIfInBounds p v) tm, defers := [] } W)
    (hbody : ∀ (l : Nat) (x : List UInt8) (W : World), W.cell? ⟨w.heap.size, 0, none⟩ = some (.int .i64 0) → W.frozen? ⟨w.heap.size, 0, none⟩ = false →
      body.wpIn (Fence.wide.inRound l) 3 Tryz.prog (fun e _ W' => (e = .normal ∧ badP x = false ∧ W' = W) ∨ (e = .ret ∧ badP x = true ∧ W' = W.setCell ⟨w.heap.size, 0, none⟩ (.int .i64 5))) (a₁ x) W)
    (hdone : ∀ W, Done w 0 W → (pieces 47 s []).any badP = false → Q .normal { tmps := tm, defers := [{ target := .collected (w.heap.size + 2), args := #[] }] } W)
    (hret : ∀ W, Done w 5 W → (pieces 47 s []).any badP = true → Code.ret.wpIn Fence.wide 5 Tryz.prog Q { tmps := tm, defers := [{ target := .collected (w.heap.size + 2), args := #[] }] } W) :
    (Code.rangeFunc g #[17] assign body).wpIn Fence.wide 5 Tryz.prog Q { tmps := tm, defers := [] } ((w.alloc (.cells #[.int .i64 0] 27)).alloc (.cells #[.string (str s)] 9)) := by
  refine wpIn_rangeFunc ?_
  intro fn _
  obtain ⟨rec, hrec⟩ : ∃ rec : LoopState → Option Code → Loop, rec = fun st pe => { state := st, pending := pe, fn, tmps := tm, params := #[17], assign, body, defers := w.heap.size + 2 } := ⟨_, rfl⟩
  have e1 : ((w.alloc (.cells #[.int .i64 0] 27)).alloc (.cells #[.string (str s)] 9)).heap.size = w.heap.size + 2 := by simp
  obtain ⟨W1, hW1⟩ : ∃ W1, W1 = ((((w.alloc (.cells #[.int .i64 0] 27)).alloc (.cells #[.string (str s)] 9)).alloc (.deferred (some []))).alloc (.loop (rec .ready none))) := ⟨_, rfl⟩
  have hst : St rec w .ready none 0 s W1 := by
    rw [hW1]
    refine ⟨(((((Below.refl _ w).alloc (Nat.le_refl _) _).alloc (by simp) _).alloc (by simp; omega) _).alloc (by simp; omega) _), ?_, ?_, ?_, ?_⟩
    · exact (four_heap w _ _ _ _).1
    · exact (four_heap w _ _ _ _).2.1
    · exact (four_heap w _ _ _ _).2.2.1
    · exact (four_heap w _ _ _ _).2.2.2
  refine ⟨w.heap.size + 3, [{ target := .collected (w.heap.size + 2), args := #[] }], W1, { target := .fn (.func 82) #[.pointer (some ⟨w.heap.size + 1, 0, none⟩)], args := #[.func (.yield (w.heap.size + 3)) #[] #[]] }, W1, 82,
    #[.func (.yield (w.heap.size + 3)) #[] #[], .pointer (some ⟨w.heap.size + 1, 0, none⟩)], W1, ?_, ?_, ?_, ?_, fun _ => by omega, ?_⟩
  · rw [hW1, hrec]
    have := run_enterLoop_outer (P := Tryz.prog) (w := ((w.alloc (.cells #[.int .i64 0] 27)).alloc (.cells #[.string (str s)] 9))) fn tm #[17] assign body
    rw [e1] at this
    exact this
  · simp only [resolve, hg]
    simp [go_sem]
  · intro f' hf'; trivial
  · simp [invoke, go_sem, enters_of Tryz.func82 (by kernel_rfl) rfl]
  · refine (iter_in 4 (w.heap.size + 3) (w.heap.size + 1) k
      (fun r W => St rec w .ready none 0 r W ∧ r.length ≤ s.length ∧ (pieces 47 s []).any badP = (pieces 47 r []).any badP)
      (fun r W => St rec w .ready none 0 r W ∧ r.length ≤ s.length ∧ (pieces 47 s []).any badP = (pieces 47 r []).any badP)
      (fun W => ∃ r, St rec w .done (some .ret) 5 r W ∧ (pieces 47 s []).any badP = true)
      (fun r W h => ⟨h.1.boxCell, h.1.cell0 hk, by have := h.2.1; omega⟩) (fun r W h => ⟨h.1.boxCell, h.1.boxFree⟩) (fun r W d h => ⟨h.1.drew d, h.2⟩) ?_ ?_ s W1 ⟨hst, Nat.le_refl _, rfl⟩).mono ?_
    · rintro r a b W ⟨h1, h2, h3⟩ hg' hr hc
      refine ⟨h1.setBox b, by rw [hr] at h2; simp at h2; omega, ?_⟩
      rw [h3]
      rcases cut1_split r with ⟨a', b', h4, h5, h6⟩ | ⟨h5, _⟩
      · rw [hc] at h5; cases h5
        rw [h6, List.any_cons, hg', Bool.false_or]
      · rw [hc] at h5; cases h5
    · rintro r W ⟨h1, h2, h3⟩
      have hy := run_yield (P := Tryz.prog) (args := #[.string (str (cut1 47 r []).1)]) h1.loop (by rw [hrec]; rfl)
      have hh : (rec .ready none).fn = fn ∧ (rec .ready none).params = #[17] ∧ (rec .ready none).tmps = tm ∧ (rec .ready none).assign = assign ∧ (rec .ready none).body = body := by rw [hrec]; exact ⟨rfl, rfl, rfl, rfl, rfl⟩
      rw [hh.1, hh.2.1, hh.2.2.1, hh.2.2.2.1, hh.2.2.2.2] at hy
      have hbad : badP (cut1 47 r []).1 = true → (pieces 47 s []).any badP = true := fun hb => by
        rw [h3]
        rcases cut1_split r with ⟨a', b', h4, h5, h6⟩ | ⟨h5, h6⟩
        · rw [h5] at hb; rw [h6, List.any_cons, hb]; rfl
        · rw [h5] at hb; rw [h6, List.any_cons, hb]; rfl
      have p2 : ∀ (v : Int) (W3 : World) (st : LoopState) (pe : Option Code) (st' : LoopState) (pe' : Option Code), St rec w st pe v r W3 → ({ rec st pe with state := st', pending := pe' } : Loop) = rec st' pe' := fun v W3 st pe st' pe' _ => by rw [hrec]
      have hbg := run_beginRound (P := Tryz.prog) h1.loop (by rw [hrec])
      have eb : ({ rec .ready none with state := .busy } : Loop) = rec .busy none := by rw [hrec]
      rw [eb] at hbg
      have h1b := h1.put .busy none
      refine ⟨fn, _, assign, body, hy, roundIn_of_wpIn trivial ?_⟩
      refine hassign _ _ W _ ?_
      refine ⟨_, hbg, ?_⟩
      refine wpIn_mono (hbody _ _ _ h1b.ansCell h1b.ansFree) ?_
      rintro e a3 W3 (⟨rfl, hx, rfl⟩ | ⟨rfl, hx, rfl⟩)
      · have he := run_endRound (P := Tryz.prog) none h1b.loop
        have er : ({ rec .busy none with state := if (none : Option Code).isNone then .ready else .done, pending := none } : Loop) = rec .ready none := by rw [hrec]; rfl
        rw [er] at he
        exact ⟨_, _, he, .inl ⟨rfl, hx, h1b.put .ready none, h2, h3⟩⟩
      · have he := run_endRound (P := Tryz.prog) (some .ret) (h1b.setAns 5).loop
        have er : ({ rec .busy none with state := if (some Code.ret).isNone then .ready else .done, pending := some .ret } : Loop) = rec .done (some .ret) := by rw [hrec]; rfl
        rw [er] at he
        exact ⟨_, _, he, .inr ⟨rfl, r, (h1b.setAns 5).put .done (some .ret), hbad hx⟩⟩
    · rintro e W2 ⟨⟨v, rfl⟩, (⟨r, hc, hb, h1, h2, h3⟩ | ⟨r, h1, h3⟩)⟩
      · have he := run_endLoop (P := Tryz.prog) h1.loop (by rw [hrec]; simp)
        have er : ({ rec .ready none with state := .exhausted } : Loop) = rec .exhausted none := by rw [hrec]
        have ep : (rec .ready none).pending = none := by rw [hrec]
        rw [er, ep] at he
        have h4 := h1.put .exhausted none
        refine ⟨none, _, he, hdone _ ⟨h4.below, h4.ans, h4.dfr⟩ ?_⟩
        rcases cut1_split r with ⟨a', b', h4, h5, h6⟩ | ⟨h5, h6⟩
        · rw [hc] at h5; cases h5
        · rw [h3, h6, List.any_cons, hb]; rfl
      · have he := run_endLoop (P := Tryz.prog) h1.loop (by rw [hrec]; simp)
        have er : ({ rec .done (some .ret) with state := .exhausted } : Loop) = rec .exhausted (some .ret) := by rw [hrec]
        have ep : (rec .done (some .ret)).pending = some .ret := by rw [hrec]
        rw [er, ep] at he
        have h4 := h1.put .exhausted (some .ret)
        exact ⟨some .ret, _, he, hret _ ⟨h4.below, h4.ans, h4.dfr⟩ h3⟩
theorem ans_put {w W : World} {v : Int} (h : W.heap[w.heap.size]? = some (.cells #[.int .i64 v] 27 (0, 0))) (D : Nat) (o : Obj) (hD : w.heap.size ≠ D) : (W.putObj D o).cell? ⟨w.heap.size, 0, none⟩ = some (.int .i64 v) :=
  Boxed.cell (t := 27) ((World.putObj_heap_other hD).trans h)
set_option maxRecDepth 100000 in
set_option maxHeartbeats 2000000 in
theorem path_calls (s : List UInt8) (hs : s.length ≤ 1000000) (k : Int) (w : World) (hk : w.cell? ⟨0, 0, none⟩ = some (.int .i64 k)) :
    Calls Tryz.prog 60 #[.string (str s)] w fun e w' => e = .returned (.int .i64 (pathV s)) ∧ Below w.heap.size w w' := by
  refine (callsIn_wide (n := 5)).1 ?_
  refine callsIn_of_wp_marks Tryz.func60 rfl trivial ?_ rfl
  simp only [Tryz.ntmps60, List.size_toArray, List.length_cons, List.length_nil, Nat.reduceAdd, Nat.reduceSub, Array.replicate_succ, Array.replicate_zero, List.push_toArray, List.append_toArray, List.nil_append, List.cons_append]
  have hcontains := fun (W : World) => Tryz.strings_Contains_one (str s) 0 W
  have c5 : (w.alloc (.cells #[.int .i64 5] 27)).cell? ⟨w.heap.size, 0, none⟩ = some (.int .i64 5) := Boxed.cell (t := 27) (World.alloc_heap_new w _)
  have b5 : Below w.heap.size w (w.alloc (.cells #[.int .i64 5] 27)) := (Below.refl _ w).alloc (Nat.le_refl _) _
  cases hE : (str s).toList.isEmpty
  · cases hL : decide ((4096 : Int) < ((str s).size : Int))
    · cases hC : decide (0 ≤ Lib.indexByte (str s).data.toList 0)
      · gi_wp2_with (first
          | (refine ⟨trivial, ?_⟩; gi_at_call 71; refine (callsIn_wide.2 (hcontains _)).mono ?_; rintro e w1 ⟨rfl, rfl⟩)
          | (refine ⟨trivial, ?_⟩; gi_at_call 72; refine (parts_in _ _ trivial rfl _ _).mono ?_; rintro e w1 ⟨rfl, rfl⟩))
        refine range_law s hs k w hk rfl (fun x => { tmps := #[.string (str s), undef, .pointer (some ⟨w.heap.size, 0, none⟩), .string (str x), .string (str s), .bool false, .bool false, .string (str s), .int .i64 ((str s).size : Int), .bool false, .bool false, .bool false, .string (str s), .bool false, .bool false, .string (str s), .func (.func 82) #[] #[.pointer (some ⟨w.heap.size + 1, 0, none⟩)], .string (str x), undef, undef, undef, undef, undef, undef, undef, undef, undef, undef], defers := [] }) ?_ ?_ ?_ ?_
        · intro l x W K hK
          gi_wp2
          exact hK
        · intro l x W hc hf
          clear hcontains c5 b5 hk hE hL hC
          gi_wp2
          all_goals simp_all [badP, toList_str]
        · intro W hd hno
          have hp : pathV s = 0 := pathV_good (by rw [toList_str] at hE; intro h; rw [h] at hE; cases hE) (by rw [str_size] at hL; have := of_decide_eq_false hL; omega) (fun h => by rw [zero_has h] at hC; cases hC) hno
          have hc := Boxed.cell (t := 27) hd.ans
          have hf := Boxed.frozen (t := 27) hd.ans
          gi_wp2
          have hd2 := Boxed.set (.int .i64 0) (t := 27) hd.ans
          have hdf : (W.setCell ⟨w.heap.size, 0, none⟩ (.int .i64 0)).heap[w.heap.size + 2]? = some (.deferred (some [])) := (Below.heap_setCell _ _ _ _ (by simp)).trans hd.dfr
          refine ⟨by simp, .inl ⟨_, _, rfl, run_takeDeferred hdf, ?_⟩⟩
          have hc := ans_put hd2 (w.heap.size + 2) (.deferred none) (by omega)
          have hb := hd.below.setCell (p := ⟨w.heap.size, 0, none⟩) (Nat.le_refl _) (.int .i64 0)
          exact ⟨.int .i64 0, by simp [results, Tryz.f60, go_sem, hc], by rw [hp], hb.grown (grownBy_putObj' _ _ _) hb.size (fun k e => by cases e; omega)⟩
        · intro W hd hyes
          have hp : pathV s = 5 := pathV_bad (.inr (.inr (.inr hyes)))
          gi_wp2
          refine ⟨by simp, .inl ⟨_, _, rfl, run_takeDeferred hd.dfr, ?_⟩⟩
          have hc := ans_put hd.ans (w.heap.size + 2) (.deferred none) (by omega)
          exact ⟨.int .i64 5, by simp [results, Tryz.f60, go_sem, hc], by rw [hp], hd.below.grown (grownBy_putObj' _ _ _) hd.below.size (fun k e => by cases e; omega)⟩
      · have hp : pathV s = 5 := pathV_bad (.inr (.inr (.inl (has_zero hC))))
        gi_wp2_with (first
          | (refine ⟨trivial, ?_⟩; gi_at_call 71; refine (callsIn_wide.2 (hcontains _)).mono ?_; rintro e w1 ⟨rfl, rfl⟩))
        exact ⟨.int .i64 5, by simp [results, Tryz.f60, go_sem, c5], by rw [hp], b5⟩
    · have hp : pathV s = 5 := pathV_bad (.inr (.inl (by rw [str_size] at hL; have := of_decide_eq_true hL; omega)))
      gi_wp2_with (refine ⟨trivial, ?_⟩)
      exact ⟨.int .i64 5, by simp [results, Tryz.f60, go_sem, c5], by rw [hp], b5⟩
  · have hp : pathV s = 5 := pathV_bad (.inl (by rw [toList_str] at hE; exact List.isEmpty_iff.1 hE))
    gi_wp2_with (refine ⟨trivial, ?_⟩)
    exact ⟨.int .i64 5, by simp [results, Tryz.f60, go_sem, c5], by rw [hp], b5⟩
theorem pathOk : PathOk := fun p m hp => Abs.Spec.of_below rfl fun ι w ys hy hr => by
  rw [Abs.flats_eq (by simp [Abs.flat]) hy]
  obtain ⟨k, hk⟩ := hr.glob.known.maxLen
  exact path_calls p hp k w hk
#print axioms pathOk
end Go.Proofs.YthcleiegefhmdaaGreatDoor
namespace Go.Proofs.YthcleiegefhmdaaGreatDoor
open Go.RowKit Abs
def exText : List UInt8 := [119, 111, 114, 108, 100, 32, 54, 48, 32, 54, 48, 32, 48, 32, 48, 10, 112, 97, 99, 107, 32, 54, 54, 58, 54, 56, 54, 57, 10, 116, 105, 99, 107, 32, 57, 10]
def exPack : StepL := ⟨0, 0, [([102], [104, 105])], [], false, 0, 0⟩
def exTick : StepL := ⟨1, 0, [], [], false, 0, 0⟩
def exScr : PS := (60, 60, 0, 0, [exPack, exTick, exTick, exTick, exTick, exTick, exTick, exTick, exTick, exTick])
theorem ex_parse : parseV exText = (exScr, 0, 0) := by decide +kernel
theorem ex_print : printV exScr = exText := by decide +kernel
theorem ScrAt.keep {M M' : Mem} {V : Value} {L : List StepL} (h : ScrAt M V L) (hk : ∀ b x, M.get b = some x → M'.get b = some x) : ScrAt M' V L := by
  obtain ⟨LV, h1, h2, h3⟩ := h
  refine ⟨LV, h1, fun q hq => Keeps.files (k := 0) ⟨fun b x _ h => hk b x h, fun b s cs h => hk b _ h⟩ (h2 q hq), ?_⟩
  obtain ⟨a, cap, e, k1, k2, k3, k4, k5⟩ := h3
  refine ⟨a, cap, e, k1, k2, k3, k4, fun q hq => ?_⟩
  obtain ⟨b, e, k6⟩ := k5 q hq
  exact ⟨b, e, fun hz => by obtain ⟨ro, k7⟩ := k6 hz; exact ⟨ro, hk _ _ k7⟩⟩
theorem keeps_old {M M' : Mem} (h : Keeps M.size M M') : ∀ b x, M.get b = some x → M'.get b = some x := fun b x hx => h.1 b x (get_live hx) hx
theorem exPack_ok : StepOk exPack := ⟨⟨by decide, by decide⟩, ⟨by decide, by decide⟩, ⟨by decide, by decide⟩, by decide, by decide, fun f hf => by
  simp only [exPack, List.mem_singleton] at hf; subst hf; exact ⟨by decide, by decide⟩⟩
theorem exTick_ok : StepOk exTick := ⟨⟨by decide, by decide⟩, ⟨by decide, by decide⟩, ⟨by decide, by decide⟩, by decide, by decide, fun f hf => by cases hf⟩
set_option maxRecDepth 100000 in
set_option maxHeartbeats 4000000 in
theorem awake_spec (m : Mem) : Abs.Spec Tryz.prog 7 [] m fun u M => u = .bool true ∧ Keeps m.size m M := by
  refine Abs.Spec.walkM Tryz.func7 (by rfl) _ Tryz.results7 _ Tryz.ntmps7 (by simp) ?_
  intro hc hx k
  have hal := al_Scr
  generalize aStride Tryz.prog 26 = s1 at hal
  refine CW_seq (CW_region ?_)
  simp only [zZ, reduceIte, Nat.reduceLT, Int.reduceToNat, Int.reduceLE, Int.reduceEq, Int.reduceLT, Nat.reduceEqDiff, Nat.reduceAdd, zTy]
  refine CW_seq (CW_region ?_)
  simp only [zZ, reduceIte, Nat.reduceLT, Int.reduceToNat, Int.reduceLE, Int.reduceEq, Int.reduceLT, Nat.reduceEqDiff, Nat.reduceAdd, zTy]
  have hp := parse_spec pathOk exText (by decide) m
  rw [ex_parse] at hp
  refine ⟨by kernel_rfl, _, hp, ?_⟩
  rintro u M1 ⟨hk1, hs1, V, hu, hV⟩
  replace hu : u = .tuple #[.agg #[.int .i64 60, .int .i64 60, .int .i64 0, .int .i64 0, V], .int .i64 0, .int .i64 0] := hu
  subst hu
  have hV0 := hV
  obtain ⟨LV, hV1, hV2, hV3⟩ := hV
  have hV3' : Rd M1 7 V 10 (LV.flatMap stepC) := hV3
  clear hV3
  obtain ⟨a, ca, rfl, _⟩ := id hV3'
  obtain ⟨ga, ra, hpa, hga⟩ := hV3'.at (by decide)
  subst hpa
  have hLV : LV.length = 10 := by have := congrArg List.length hV1; rw [List.length_map] at this; exact this
  obtain ⟨⟨y0, W0⟩, hX0⟩ : ∃ A, LV[0]? = some A := ⟨_, List.getElem?_eq_getElem (by omega)⟩
  obtain ⟨⟨y9, W9⟩, hX9⟩ : ∃ A, LV[9]? = some A := ⟨_, List.getElem?_eq_getElem (by omega)⟩
  have e0 : y0 = exPack := by
    have h : (LV.map Prod.fst)[0]? = some y0 := by rw [List.getElem?_map, hX0]; rfl
    rw [hV1] at h; exact (Option.some.inj h).symm
  have e9 : y9 = exTick := by
    have h : (LV.map Prod.fst)[9]? = some y9 := by rw [List.getElem?_map, hX9]; rfl
    rw [hV1] at h; exact (Option.some.inj h).symm
  subst e0
  subst e9
  have hF := hV2 _ (List.mem_of_getElem? hX0)
  simp only at hF
  have hF2 : Rd M1 2 W0 1 (exPack.files.flatMap fileC) := hF.rd
  obtain ⟨va, vc, rfl, _⟩ := id hF2
  obtain ⟨gv, rv, hva, hgv⟩ := hF2.at (by decide)
  subst hva
  have c0 : (LV.flatMap stepC)[0 * 7 + 2]? = some (.slice (some ⟨gv, 0, none⟩) 1 vc) := flatMap_get (fun a _ => stepC_len a) hX0 (o := 2) (by decide)
  have c9 : (LV.flatMap stepC)[9 * 7]? = some (.int .i64 1) := flatMap_get (fun a _ => stepC_len a) hX9 (o := 0) (by decide)
  simp only [zZ, reduceIte, Nat.reduceLT, Int.reduceToNat, Int.reduceLE, Int.reduceEq, Int.reduceLT, Nat.reduceEqDiff, Nat.reduceAdd, zTy, hal, Mem.get_push_new, push_set]
  obtain ⟨M2, hM2⟩ : ∃ M2, M2 = M1.push (.cells false s1 [.int .i64 60, .int .i64 60, .int .i64 0, .int .i64 0, .slice (some ⟨ga, 0, none⟩) 10 ca]) := ⟨_, rfl⟩
  have hold2 : ∀ b x, M1.get b = some x → M2.get b = some x := fun b x hx => by rw [hM2, Mem.get_push_old (get_live hx)]; exact hx
  have hb2 : M2.get M1.size = some (.cells false s1 [.int .i64 60, .int .i64 60, .int .i64 0, .int .i64 0, .slice (some ⟨ga, 0, none⟩) 10 ca]) := by rw [hM2, Mem.get_push_new]
  have hs2 : M2.size = M1.size + 1 := by rw [hM2, Mem.size_push]
  have hga2 := hold2 _ _ hga
  have hgv2 := hold2 _ _ hgv
  rw [← hM2]
  have b0 : ((0 : Int) == 0) = true := rfl
  have b60 : ((60 : Int) == 60) = true := rfl
  have b10 : ((10 : Int) == 10) = true := rfl
  have b1 : ((1 : Int) == 1) = true := rfl
  have bf : ∀ c, aBin Tryz.prog .eql 57 c (.agg #[.string (str [102]), .string (str [104, 105])]) (.agg #[.string ⟨#[102]⟩, .string ⟨#[104, 105]⟩]) = some (.bool true) := fun c => by cases c <;> kernel_rfl
  have hbf : aBuild Tryz.prog 57 [(0, .string ⟨#[102]⟩), (1, .string ⟨#[104, 105]⟩)] = some (.agg #[.string ⟨#[102]⟩, .string ⟨#[104, 105]⟩]) := by kernel_rfl
  have i0 : (0 : Int) ≤ 0 := by decide
  have i1 : (0 : Int) < 10 := by decide
  have i2 : (0 : Int) ≤ 9 := by decide
  have i3 : (9 : Int) < 10 := by decide
  have i4 : (0 : Int) < 1 := by decide
  have hrow : rowIn 2 (0 * 2) (some (.cells rv 2 (exPack.files.flatMap fileC))) = some (.agg #[.string (str [102]), .string (str [104, 105])]) := rfl
  have n10 : ((10 : Nat) : Int) = 10 := rfl
  have n1 : ((1 : Nat) : Int) = 1 := rfl
  have tn0 : (0 : Int).toNat = 0 := rfl
  have tn9 : (9 : Int).toNat = 9 := rfl
  refine CW_seq (CW_region ?_)
  simp only [zZ, reduceIte, Nat.reduceLT, Int.reduceToNat, Int.reduceLE, Int.reduceEq, Int.reduceLT, Nat.reduceEqDiff, Nat.reduceAdd, zTy, hb2, b0, n10, b10, b60, i0, i1, i2, i3, i4, and_self, tn0, tn9, hga2, c0, n1, b1, hgv2, hrow, hbf, bf, c9, decide_true]
  have hpr := print_spec exScr (some ⟨ga, 0, none⟩) ca M2 (ScrAt.keep hV0 hold2) ⟨by decide, by decide⟩ ⟨by decide, by decide⟩ ⟨by decide, by decide⟩ ⟨by decide, by decide⟩ (by decide)
    (fun y hy => by
      have : y = exPack ∨ y = exTick := by simpa [exScr] using hy
      rcases this with rfl | rfl
      · exact exPack_ok
      · exact exTick_ok) (by rw [ex_print]; decide)
  rw [ex_print] at hpr
  have hq : beqB (str exText) ⟨#[119, 111, 114, 108, 100, 32, 54, 48, 32, 54, 48, 32, 48, 32, 48, 10, 112, 97, 99, 107, 32, 54, 54, 58, 54, 56, 54, 57, 10, 116, 105, 99, 107, 32, 57, 10]⟩ = true := by decide +kernel
  refine ⟨by kernel_rfl, _, hpr, ?_⟩
  rintro _ M3 ⟨rfl, hk3⟩
  simp only [zZ, reduceIte, Nat.reduceLT, Int.reduceToNat, Int.reduceLE, Int.reduceEq, Int.reduceLT, Nat.reduceEqDiff, Nat.reduceAdd, zTy, hq]
  refine CW_ret ?_
  simp only [zZ, reduceIte, Nat.reduceLT, Int.reduceToNat, Int.reduceLE, Int.reduceEq, Int.reduceLT, Nat.reduceEqDiff, Nat.reduceAdd, zTy, mEnd, sAnswer, sAnswer.sRes]
  have hk13 : ∀ b x, M1.get b = some x → M3.get b = some x := fun b x hx => keeps_old hk3 b x (hold2 b x hx)
  exact ⟨M3, Thin.refl _, fun b x hb hx => hk13 b x (hk1.1 b x hb hx), fun b s cs hx => hk13 _ _ (hk1.2 b s cs hx)⟩
end Go.Proofs.YthcleiegefhmdaaGreatDoor
namespace Go.Proofs.YthcleiegefhmdaaGreatDoor
open Go.RowKit Abs
theorem join_cons2 (a b : List UInt8) (r : List (List UInt8)) (sep : List UInt8) : Lib.join (a :: b :: r) sep = a ++ sep ++ Lib.join (b :: r) sep := by
  simp [Lib.join, List.intercalate, List.intersperse, List.append_assoc]
theorem join_one (a : List UInt8) (sep : List UInt8) : Lib.join [a] sep = a := Lib.join_one a sep
theorem join_pieces (c : UInt8) : ∀ (l cur : List UInt8), Lib.join (pieces c l cur) [c] = cur ++ l
  | [], cur => by rw [pieces, join_one, List.append_nil]
  | b :: r, cur => by
    rw [pieces]
    split
    · rename_i h
      subst h
      obtain ⟨x, q, hq⟩ : ∃ x q, pieces b r [] = x :: q := by
        cases h : pieces b r [] with
        | nil => have := pieces_len b r []; rw [h] at this; simp at this
        | cons x q => exact ⟨x, q, rfl⟩
      have := join_pieces b r []
      rw [hq] at this ⊢
      rw [join_cons2, this]; simp
    · rw [join_pieces c r]; simp
theorem pieces_join (c : UInt8) : ∀ (ws : List (List UInt8)), ws ≠ [] → (∀ w ∈ ws, c ∉ w) → pieces c (Lib.join ws [c]) [] = ws
  | [], h, _ => absurd rfl h
  | [w], _, h => by rw [join_one, pieces_not c w [] (h w (by simp))]; rfl
  | w :: v :: r, _, h => by
    rw [join_cons2, List.append_assoc]
    have := pieces_at c w (Lib.join (v :: r) [c]) [] (h w (by simp))
    rw [show [c] ++ Lib.join (v :: r) [c] = c :: Lib.join (v :: r) [c] from rfl, this, pieces_join c (v :: r) (by simp) (fun x hx => h x (by simp [hx]))]
    rfl
theorem pieces_free (c : UInt8) : ∀ (l cur : List UInt8), c ∉ cur → ∀ w ∈ pieces c l cur, c ∉ w
  | [], cur, h, w, hw => by simp [pieces] at hw; subst hw; exact h
  | b :: r, cur, h, w, hw => by
    rw [pieces] at hw
    split at hw
    · rcases List.mem_cons.1 hw with rfl | hw
      · exact h
      · exact pieces_free c r [] (by simp) w hw
    · rename_i hb
      exact pieces_free c r _ (by simp [h, Ne.symm hb]) w hw
theorem dig_back : ∀ n : Fin 256, 0 ≤ digI n.val → digit (digI n.val).toNat = UInt8.ofNat n.val := by decide +kernel
theorem digit_back (b : UInt8) (h : 0 ≤ digN b) : digit (digN b).toNat = b := by
  have := dig_back ⟨b.toNat, b.toNat_lt⟩ h
  simpa [digN] using this
theorem hex_back : ∀ (l q : List UInt8), unhexL l = some q → hexL q = l
  | [], q, h => by simp [unhexL] at h; subst h; rfl
  | [_], q, h => by cases h
  | a :: b :: r, q, h => by
    rw [unhexL] at h
    split at h
    · cases h
    · rename_i hd
      split at h
      · rename_i q' hq
        cases h
        have ha := digN_lt a
        have hb := digN_lt b
        have h1 : (UInt8.ofNat (16 * digN a + digN b).toNat).toNat = (16 * digN a + digN b).toNat := by
          rw [UInt8.toNat_ofNat']; omega
        have e1 : (16 * digN a + digN b).toNat / 16 = (digN a).toNat := by omega
        have e2 : (16 * digN a + digN b).toNat % 16 = (digN b).toNat := by omega
        have := hex_back r q' hq
        unfold hexL at this ⊢
        rw [List.flatMap_cons, this, h1, e1, e2, digit_back a (by omega), digit_back b (by omega)]
        rfl
      · cases h
theorem unhexV_back (l : List UInt8) (h : (unhexV l).2 = true) : hexV (unhexV l).1 = l := by
  unfold unhexV at h ⊢
  split at h
  · rename_i h1; rw [if_pos h1, h1]; rfl
  · rename_i h1
    rw [if_neg h1]
    split at h
    · cases h
    · rename_i h2
      rw [if_neg h2]
      split at h
      · rename_i q hq
        simp only
        unfold hexV
        have := hex_back l q hq
        rw [if_neg (fun e => by subst e; exact h2 this.symm), this]
      · cases h
theorem numQ_back {l : List UInt8} {a b v : Int} (h : numQ l a b = some v) (h0 : -9223372036854775808 ≤ a) (h1 : b ≤ 9223372036854775807) : l = Lib.itoa v ∧ a ≤ v ∧ v ≤ b := by
  unfold numQ at h
  split at h
  · rename_i h2
    cases h
    refine (numP_iff l a b _ h0 h1).1 ?_
    rw [← h2]
  · cases h
theorem fileOf_back {w : List UInt8} {f : FileL} (h : fileOf w = some f) : fileW f = w := by
  unfold fileOf at h
  split at h
  · rename_i h1
    cases h
    unfold fileW
    simp only
    rw [unhexV_back _ h1.2.1, unhexV_back _ h1.2.2]
    rcases index_miss w 58 with h2 | ⟨a, b, h2, h3, _⟩
    · rw [cut1_not 58 w [] (index_not w 58 h2)] at h1
      cases h1.1
    · rw [h2, cut1_at 58 a b [] h3]
      simp
  · cases h
theorem filesOf_back : ∀ {ws : List (List UInt8)} {fs : List FileL}, filesOf ws = some fs → fs.map fileW = ws
  | [], fs, h => by cases h; rfl
  | w :: r, fs, h => by
    rw [filesOf] at h
    split at h
    · cases h
    · rename_i f hf
      rw [Option.map_eq_some_iff] at h
      obtain ⟨q, h1, rfl⟩ := h
      rw [List.map_cons, fileOf_back hf, filesOf_back h1]
theorem step_back {ws : List (List UInt8)} {y : StepL} {k : Nat} (h : stepOf ws = some (y, k)) : (y = stepK 1 0 ∧ 1 ≤ k ∧ k ≤ 1000) ∨ (k = 1 ∧ y.kind ≠ 1 ∧ stepLine y = lineL ws) := by
  unfold stepOf at h
  split at h
  · cases h
  · rename_i w0 r
    split at h
    · rename_i h0
      subst h0
      right
      unfold packOf at h
      split at h
      · cases h
      · rename_i fs hfs
        split at h
        · cases h
          refine ⟨rfl, by simp [stepK], ?_⟩
          unfold stepLine
          rw [if_pos rfl]
          simp only
          rw [filesOf_back hfs]; rfl
        · cases h
    · split at h
      · left
        unfold tickOf at h
        split at h
        · rw [Option.map_eq_some_iff] at h
          obtain ⟨v, h1, h2⟩ := h
          cases h2
          obtain ⟨_, h3, h4⟩ := numQ_back h1 (by decide) (by decide)
          exact ⟨rfl, by omega, by omega⟩
        · cases h
      · split at h
        · rename_i h0
          subst h0
          right
          unfold sideOf at h
          split at h
          · rename_i a b
            split at h
            · rename_i h1
              rw [Option.map_eq_some_iff] at h
              obtain ⟨v, h2, h3⟩ := h
              cases h3
              obtain ⟨h4, _, _⟩ := numQ_back h2 (by decide) (by decide)
              subst h1
              refine ⟨rfl, by simp [stepK], ?_⟩
              rw [h4]; rfl
            · split at h
              · rename_i h1
                rw [Option.map_eq_some_iff] at h
                obtain ⟨v, h2, h3⟩ := h
                cases h3
                obtain ⟨h4, _, _⟩ := numQ_back h2 (by decide) (by decide)
                subst h1
                refine ⟨rfl, by simp [stepK], ?_⟩
                rw [h4]; rfl
              · cases h
          · cases h
        · split at h
          · rename_i h0
            subst h0
            right
            unfold sideOf at h
            split at h
            · rename_i a b
              split at h
              · rename_i h1
                rw [Option.map_eq_some_iff] at h
                obtain ⟨v, h2, h3⟩ := h
                cases h3
                obtain ⟨h4, _, _⟩ := numQ_back h2 (by decide) (by decide)
                subst h1
                refine ⟨rfl, by simp [stepK], ?_⟩
                rw [h4]; rfl
              · split at h
                · rename_i h1
                  rw [Option.map_eq_some_iff] at h
                  obtain ⟨v, h2, h3⟩ := h
                  cases h3
                  obtain ⟨h4, _, _⟩ := numQ_back h2 (by decide) (by decide)
                  subst h1
                  refine ⟨rfl, by simp [stepK], ?_⟩
                  rw [h4]; rfl
                · cases h
            · cases h
          · split at h
            · rename_i h0
              subst h0
              right
              unfold injectOf at h
              split at h
              · rename_i a b c
                split at h
                · rename_i h1
                  split at h
                  · rename_i h2
                    rw [Option.map_eq_some_iff] at h
                    obtain ⟨v, h3, h4⟩ := h
                    cases h4
                    obtain ⟨h5, _, _⟩ := numQ_back h3 (by decide) (by decide)
                    refine ⟨rfl, by simp [stepK], ?_⟩
                    have e : stepLine ⟨6, if a = wSender then 1 else 0, [], (unhexV b).1, false, v, 0⟩ = lineL [wInject, sideL (bits BinOp.and IntKind.i64 (if a = wSender then 1 else 0) 1), hexV (unhexV b).1, Lib.itoa v] := rfl
                    rw [e, unhexV_back b h2, ← h5]
                    have e2 : sideL (bits BinOp.and IntKind.i64 (if a = wSender then 1 else 0) 1) = a := by
                      split
                      · rename_i h6; rw [h6]; rfl
                      · rename_i h6
                        rcases h1 with h1 | h1
                        · exact absurd h1 h6
                        · rw [h1]; rfl
                    rw [e2]
                  · cases h
                · cases h
              · cases h
            · split at h
              · rename_i h0
                subst h0
                right
                unfold fateOf at h
                split at h
                · rename_i a
                  split at h
                  · rename_i h1
                    cases h
                    subst h1
                    exact ⟨rfl, by decide, rfl⟩
                  · cases h
                · rename_i a b
                  rw [Option.bind_eq_some_iff] at h
                  obtain ⟨d, h1, h2⟩ := h
                  rw [Option.map_eq_some_iff] at h2
                  obtain ⟨c, h3, h4⟩ := h2
                  cases h4
                  obtain ⟨h5, _, _⟩ := numQ_back h1 (by decide) (by decide)
                  obtain ⟨h6, _, _⟩ := numQ_back h3 (by decide) (by decide)
                  refine ⟨rfl, by simp [stepK], ?_⟩
                  rw [h5, h6]; rfl
                · cases h
              · cases h
theorem step_ok {w : List UInt8} {y : StepL} {k : Nat} (h : stepOf (pieces 32 w []) = some (y, k)) (hw : w.length ≤ 900000) : StepOk y := by
  have hm : ∀ v ∈ pieces 32 w [], v.length ≤ 900000 := fun v hv => by have := pieces_mem 32 w [] v hv; simp at this; omega
  have hk : (pieces 32 w []).length ≤ 900001 := by rw [pieces_len]; have := List.count_le_length (a := (32 : UInt8)) (l := w); omega
  have i0 : isI64 0 := ⟨by decide, by decide⟩
  have fn : ∀ f ∈ ([] : List FileL), f.1.length ≤ 1000000 ∧ f.2.length ≤ 1000000 := fun f hf => by simp at hf
  unfold stepOf at h
  split at h
  · cases h
  · rename_i w0 r hr
    rw [hr] at hm hk
    split at h
    · unfold packOf at h
      split at h
      · cases h
      · rename_i fs hfs
        split at h
        · cases h
          obtain ⟨h1, h2⟩ := filesOf_mem hfs
          simp only [List.length_cons] at hk
          refine ⟨i0, i0, i0, by simp, by simp only; omega, fun f hf => ?_⟩
          obtain ⟨v, hv1, hv2⟩ := h2 f hf
          have := fileOf_len hv2
          have := hm v (by simp [hv1])
          omega
        · cases h
    · split at h
      · unfold tickOf at h
        split at h
        · rw [Option.map_eq_some_iff] at h
          obtain ⟨v, h1, h2⟩ := h
          cases h2
          exact ⟨i0, i0, i0, by simp [stepK], by simp [stepK], fn⟩
        · cases h
      · have side : ∀ (r : List (List UInt8)) (a b : Int), sideOf r a b = some (y, k) → StepOk y := fun r a b h => by
          unfold sideOf at h
          split at h
          · split at h
            · rw [Option.map_eq_some_iff] at h
              obtain ⟨v, h1, h2⟩ := h
              cases h2
              obtain ⟨_, h3, h4⟩ := numQ_back h1 (by decide) (by decide)
              exact ⟨⟨by simp only [stepK]; omega, by simp only [stepK]; omega⟩, i0, i0, by simp [stepK], by simp [stepK], fn⟩
            · split at h
              · rw [Option.map_eq_some_iff] at h
                obtain ⟨v, h1, h2⟩ := h
                cases h2
                obtain ⟨_, h3, h4⟩ := numQ_back h1 (by decide) (by decide)
                exact ⟨⟨by simp only [stepK]; omega, by simp only [stepK]; omega⟩, i0, i0, by simp [stepK], by simp [stepK], fn⟩
              · cases h
          · cases h
        split at h
        · exact side _ _ _ h
        · split at h
          · exact side _ _ _ h
          · split at h
            · unfold injectOf at h
              split at h
              · rename_i a b c
                split at h
                · split at h
                  · rw [Option.map_eq_some_iff] at h
                    obtain ⟨v, h3, h4⟩ := h
                    cases h4
                    obtain ⟨_, h5, h6⟩ := numQ_back h3 (by decide) (by decide)
                    have h7 := unhexV_len b
                    have h8 := hm b (by simp)
                    exact ⟨by simp only; split <;> exact ⟨by decide, by decide⟩, ⟨by simp only; omega, by simp only; omega⟩, i0, by simp only; omega, by simp, fn⟩
                  · cases h
                · cases h
              · cases h
            · split at h
              · unfold fateOf at h
                split at h
                · split at h
                  · cases h
                    exact ⟨i0, i0, i0, by simp, by simp, fn⟩
                  · cases h
                · rw [Option.bind_eq_some_iff] at h
                  obtain ⟨d, h1, h2⟩ := h
                  rw [Option.map_eq_some_iff] at h2
                  obtain ⟨c, h3, h4⟩ := h2
                  cases h4
                  obtain ⟨_, h5, h6⟩ := numQ_back h1 (by decide) (by decide)
                  obtain ⟨_, h7, h8⟩ := numQ_back h3 (by decide) (by decide)
                  exact ⟨i0, ⟨by simp only; omega, by simp only; omega⟩, ⟨by simp only; omega, by simp only; omega⟩, by simp, by simp, fn⟩
                · cases h
              · cases h
theorem numsV_back : ∀ {ws : List (List UInt8)} {bs : List (Int × Int)} {q : List Int}, numsV ws bs = some q → (∀ b ∈ bs, 0 ≤ b.1 ∧ b.2 ≤ 10000) → ws = q.map Lib.itoa ∧ ∀ v ∈ q, 0 ≤ v ∧ v ≤ 10000
  | [], [], q, h, _ => by simp [numsV] at h; subst h; exact ⟨rfl, fun v hv => by simp at hv⟩
  | [], _ :: _, q, h, _ => by cases h
  | _ :: _, [], q, h, _ => by cases h
  | w :: r, b :: bs, q, h, hb => by
    rw [numsV] at h
    split at h
    · rename_i h1
      rw [Option.map_eq_some_iff] at h
      obtain ⟨p, h2, rfl⟩ := h
      obtain ⟨h3, h4⟩ := numsV_back h2 fun x hx => hb x (by simp [hx])
      have hb0 := hb b (by simp)
      obtain ⟨h5, h6, h7⟩ := (numP_iff w b.1 b.2 _ (by omega) (by omega)).1 (show numP w b.1 b.2 = ((numP w b.1 b.2).1, true) by rw [← h1])
      refine ⟨by rw [List.map_cons, ← h5, ← h3], fun v hv => ?_⟩
      rcases List.mem_cons.1 hv with rfl | hv
      · omega
      · exact h4 v hv
    · cases h
theorem first_back {ws : List (List UInt8)} {a b c d : Int} (h : firstOf ws = some (a, b, c, d)) : lineL [[119, 111, 114, 108, 100], Lib.itoa a, Lib.itoa b, Lib.itoa c, Lib.itoa d] = lineL ws ∧ isI64 a ∧ isI64 b ∧ isI64 c ∧ isI64 d := by
  unfold firstOf at h
  split at h
  · rename_i w0 r
    split at h
    · rename_i h0
      subst h0
      split at h
      · rename_i q e f g i hq
        cases h
        obtain ⟨h1, h2⟩ := numsV_back hq (by intro x hx; simp at hx; rcases hx with rfl | rfl | rfl | rfl <;> decide)
        refine ⟨by rw [h1]; rfl, ?_, ?_, ?_, ?_⟩
        · have := h2 a (by simp); exact ⟨by omega, by omega⟩
        · have := h2 b (by simp); exact ⟨by omega, by omega⟩
        · have := h2 c (by simp); exact ⟨by omega, by omega⟩
        · have := h2 d (by simp); exact ⟨by omega, by omega⟩
      · cases h
    · cases h
  · cases h
def GoodStep (z : StepL) : Prop := z = stepK 1 0 ∨ (z.kind ≠ 1 ∧ ∃ w : List UInt8, 10 ∉ w ∧ w.length ≤ 900000 ∧ stepOf (pieces 32 w []) = some (z, 1) ∧ stepLine z = w ++ [10])
theorem line_pieces (w : List UInt8) : lineL (pieces 32 w []) = w ++ [10] := by
  unfold lineL; rw [join_pieces, List.nil_append]
def nt : List StepL → Nat
  | [] => 0
  | z :: r => (if z.kind = 1 then 0 else (stepLine z).length) + nt r
theorem nt_append : ∀ (a b : List StepL), nt (a ++ b) = nt a + nt b
  | [], b => by simp [nt]
  | z :: r, b => by rw [List.cons_append, nt, nt, nt_append r b]; omega
theorem nt_ticks : ∀ (k : Nat), nt (List.replicate k (stepK 1 0)) = 0
  | 0 => rfl
  | k + 1 => by rw [List.replicate_succ, nt, nt_ticks k]; rfl
theorem line_good {w : List UInt8} {L L' : List StepL} (hw : 10 ∉ w) (hl : w.length ≤ 900000) (h : addS L (stepOf (pieces 32 w [])) = some L') (hg : ∀ z ∈ L, GoodStep z) : (∀ z ∈ L', GoodStep z) ∧ L'.length ≤ 4096 ∧ nt L' ≤ nt L + w.length + 1 := by
  unfold addS at h
  split at h
  · cases h
  · rename_i z k hz
    split at h
    · rename_i hle
      cases h
      rcases step_back hz with ⟨rfl, _, _⟩ | ⟨rfl, h1, h2⟩
      · refine ⟨fun y hy => ?_, by simpa using hle, by rw [nt_append, nt_ticks]; omega⟩
        rcases List.mem_append.1 hy with hy | hy
        · exact hg y hy
        · exact .inl (List.mem_replicate.1 hy).2
      · rw [line_pieces] at h2
        refine ⟨fun y hy => ?_, by simpa using hle, ?_⟩
        · rcases List.mem_append.1 hy with hy | hy
          · exact hg y hy
          · simp at hy; subst hy; exact .inr ⟨h1, w, hw, hl, hz, h2⟩
        · rw [nt_append]
          simp only [List.replicate_one, nt, if_neg h1, h2, List.length_append, List.length_singleton]
          omega
    · cases h
def lens1 : List (List UInt8) → Nat
  | [] => 0
  | s :: r => s.length + 1 + lens1 r
theorem run_good : ∀ (ls : List (List UInt8)) (n : Nat) (x y : PS) (m : Int), (∀ s ∈ ls, 10 ∉ s ∧ s.length ≤ 900000) → n ≠ 0 → (∀ z ∈ x.2.2.2.2, GoodStep z) → x.2.2.2.2.length ≤ 4096 → runLines ls n x = (y, m, 0) →
    m = 0 ∧ y.1 = x.1 ∧ y.2.1 = x.2.1 ∧ y.2.2.1 = x.2.2.1 ∧ y.2.2.2.1 = x.2.2.2.1 ∧ (∀ z ∈ y.2.2.2.2, GoodStep z) ∧ y.2.2.2.2.length ≤ 4096 ∧ nt y.2.2.2.2 ≤ nt x.2.2.2.2 + lens1 ls
  | [], n, x, y, m, _, _, hg, hl, h => by
    simp only [runLines, Prod.mk.injEq] at h
    obtain ⟨rfl, rfl, _⟩ := h
    exact ⟨rfl, rfl, rfl, rfl, rfl, hg, hl, Nat.le_add_right _ _⟩
  | s :: r, n, x, y, m, hs, hn, hg, hl, h => by
    rw [runLines] at h
    split at h
    · simp at h
    · rename_i x1 hx1
      unfold lineOf at hx1
      rw [decide_eq_false hn] at hx1
      simp only [Bool.false_eq_true, if_false] at hx1
      rw [Option.map_eq_some_iff] at hx1
      obtain ⟨L', h1, rfl⟩ := hx1
      have hs0 := hs s (by simp)
      obtain ⟨g1, g2, g3⟩ := line_good hs0.1 hs0.2 h1 hg
      obtain ⟨k1, k2, k3, k4, k5, k6, k7, k8⟩ := run_good r (n + 1) _ y m (fun q hq => hs q (by simp [hq])) (by omega) g1 g2 h
      refine ⟨k1, k2, k3, k4, k5, k6, k7, ?_⟩
      simp only [lens1]
      simp only at k8
      omega
def GoodScr (x : PS) (B : Nat) : Prop := ∃ w0 : List UInt8, 10 ∉ w0 ∧ firstOf (pieces 32 w0 []) = some (x.1, x.2.1, x.2.2.1, x.2.2.2.1) ∧ lineL [[119, 111, 114, 108, 100], Lib.itoa x.1, Lib.itoa x.2.1, Lib.itoa x.2.2.1, Lib.itoa x.2.2.2.1] = w0 ++ [10] ∧
  isI64 x.1 ∧ isI64 x.2.1 ∧ isI64 x.2.2.1 ∧ isI64 x.2.2.2.1 ∧ (∀ z ∈ x.2.2.2.2, GoodStep z) ∧ x.2.2.2.2.length ≤ 4096 ∧ w0.length + 1 + nt x.2.2.2.2 ≤ B
theorem lens1_pieces (c : UInt8) : ∀ (l cur : List UInt8), lens1 (pieces c l cur) = cur.length + l.length + 1
  | [], cur => by simp [pieces, lens1]
  | b :: r, cur => by
    rw [pieces]
    split
    · rw [lens1, lens1_pieces]; simp; omega
    · rw [lens1_pieces]; simp; omega
theorem run_err : ∀ (ls : List (List UInt8)) (n : Nat) (x y : PS) (m e : Int), runLines ls n x = (y, m, e) → e = 0 ∨ (e ≠ 0 ∧ y = ps0)
  | [], n, x, y, m, e, h => by
    simp only [runLines, Prod.mk.injEq] at h
    exact .inl h.2.2.symm
  | s :: r, n, x, y, m, e, h => by
    rw [runLines] at h
    split at h
    · simp only [Prod.mk.injEq] at h
      obtain ⟨rfl, _, rfl⟩ := h
      exact .inr ⟨by decide, rfl⟩
    · exact run_err r (n + 1) _ y m e h
theorem parse_good {s : List UInt8} {x : PS} {n e : Int} (hs : s.length ≤ 800000) (h : parseV s = (x, n, e)) : (e = 0 ∧ n = 0 ∧ GoodScr x s.length) ∨ (e ≠ 0 ∧ x = ps0) := by
  unfold parseV at h
  split at h
  · cases h; exact .inr ⟨by decide, rfl⟩
  · split at h
    · cases h; exact .inr ⟨by decide, rfl⟩
    · rename_i hsuf
      obtain ⟨r, hr⟩ := (suffix_iff s 10).1 (by simpa using hsuf)
      subst hr
      rw [trim_eq] at h
      have hfree := pieces_free 10 r [] (by simp)
      have hlen := lens1_pieces 10 r []
      have hmem := pieces_mem 10 r []
      simp only [List.length_append, List.length_singleton] at hs ⊢
      cases hp : pieces 10 r [] with
      | nil => have := pieces_len 10 r []; rw [hp] at this; simp at this
      | cons w0 ls =>
        rw [hp] at h hfree hlen hmem
        rw [runLines] at h
        split at h
        · cases h; exact .inr ⟨by decide, rfl⟩
        · rename_i y0 hy0
          rcases run_err ls 1 y0 x n e h with rfl | he
          · left
            unfold lineOf at hy0
            simp only [decide_true, if_true] at hy0
            rw [Option.map_eq_some_iff] at hy0
            obtain ⟨⟨a, b, c, d⟩, h1, rfl⟩ := hy0
            obtain ⟨f1, f2, f3, f4, f5⟩ := first_back h1
            rw [line_pieces] at f1
            simp only at h
            obtain ⟨k1, k2, k3, k4, k5, k6, k7, k8⟩ := run_good ls 1 _ x n (fun q hq => ⟨hfree q (by simp [hq]), by have := hmem q (by simp [hq]); simp at this; omega⟩) (by decide) (by simp) (by simp) h
            simp only at k2 k3 k4 k5 k8
            simp only [lens1, List.length_nil] at hlen
            simp only [nt] at k8
            refine ⟨rfl, k1, w0, hfree w0 (by simp), by rw [k2, k3, k4, k5]; exact h1, by rw [k2, k3, k4, k5]; exact f1, by rw [k2]; exact f2, by rw [k3]; exact f3, by rw [k4]; exact f4, by rw [k5]; exact f5, k6, k7, by omega⟩
          · exact .inr he
def tickW (k : Nat) : List UInt8 := wTick ++ [32] ++ Lib.itoa (k : Int)
def linesB : Nat → List StepL → List (List UInt8)
  | _, [] => []
  | n, z :: r => if z.kind = 1 then (if tickNext r = true ∧ n + 1 < 1000 then linesB (n + 1) r else tickW (n + 1) :: linesB 0 r) else (stepLine z).dropLast :: linesB 0 r
theorem dec_digits : ∀ (u : Nat), ∀ b ∈ Lib.decDigits u, 48 ≤ b.toNat ∧ b.toNat ≤ 57 := by
  intro u
  induction u using Nat.strongRecOn with
  | _ u ih =>
    intro b hb
    by_cases h : u < 10
    · rw [Lib.decDigits_one h, List.mem_singleton] at hb
      subst hb
      rw [dig_nat h]; omega
    · rw [Lib.decDigits, dif_neg h] at hb
      rcases List.mem_append.1 hb with hb | hb
      · exact ih (u / 10) (by omega) b hb
      · rw [List.mem_singleton] at hb
        subst hb
        rw [dig_nat (Nat.mod_lt u (by decide : 10 > 0))]; omega
theorem itoa_free (v : Int) (c : UInt8) (hc : c = 10 ∨ c = 32) : c ∉ Lib.itoa v := by
  intro h
  have hd : ∀ u, c ∉ Lib.decDigits u := fun u hu => by
    have := dec_digits u c hu
    rcases hc with rfl | rfl <;> revert this <;> decide
  unfold Lib.itoa at h
  split at h
  · rcases List.mem_cons.1 h with h | h
    · rcases hc with rfl | rfl <;> exact absurd h (by decide)
    · exact hd _ h
  · exact hd _ h
theorem tickW_free (k : Nat) : 10 ∉ tickW k := by
  unfold tickW wTick
  intro h
  rcases List.mem_append.1 h with h | h
  · revert h; decide
  · exact itoa_free _ _ (.inl rfl) h
theorem tickW_pieces (k : Nat) : pieces 32 (tickW k) [] = [wTick, Lib.itoa (k : Int)] := by
  have : tickW k = Lib.join [wTick, Lib.itoa (k : Int)] [32] := by rw [join_cons2, join_one]; rfl
  rw [this]
  refine pieces_join 32 _ (by simp) fun w hw => ?_
  simp at hw
  rcases hw with rfl | rfl
  · decide
  · exact itoa_free _ _ (.inr rfl)
theorem tickW_line (k : Nat) : lineL [wTick, Lib.itoa (k : Int)] = tickW k ++ [10] := by
  rw [← tickW_pieces k, line_pieces]
theorem tick_step (k : Nat) (h1 : 1 ≤ k) (h2 : k ≤ 1000) : stepOf (pieces 32 (tickW k) []) = some (stepK 1 0, k) := by
  rw [tickW_pieces]
  have hn : numQ (Lib.itoa (k : Int)) 1 1000 = some (k : Int) := by
    unfold numQ
    have := (numP_iff (Lib.itoa (k : Int)) 1 1000 k (by decide) (by decide)).2 ⟨rfl, by omega, by omega⟩
    rw [this]; rfl
  show tickOf [Lib.itoa (k : Int)] = _
  simp only [tickOf, hn]
  simp
theorem linesB_free : ∀ (L : List StepL) (n : Nat), (∀ z ∈ L, GoodStep z) → ∀ w ∈ linesB n L, 10 ∉ w
  | [], n, _, w, hw => by simp [linesB] at hw
  | z :: r, n, hg, w, hw => by
    have hr : ∀ y ∈ r, GoodStep y := fun y hy => hg y (by simp [hy])
    rw [linesB] at hw
    split at hw
    · split at hw
      · exact linesB_free r _ hr w hw
      · rcases List.mem_cons.1 hw with rfl | hw
        · exact tickW_free _
        · exact linesB_free r _ hr w hw
    · rename_i hk
      rcases List.mem_cons.1 hw with rfl | hw
      · rcases hg z (by simp) with rfl | ⟨_, v, h1, _, _, h4⟩
        · exact absurd rfl hk
        · rw [h4, List.dropLast_concat]; exact h1
      · exact linesB_free r _ hr w hw
theorem printB_lines : ∀ (L : List StepL) (n : Nat), (∀ z ∈ L, GoodStep z) → printB n L = (linesB n L).flatMap (· ++ [10])
  | [], n, _ => rfl
  | z :: r, n, hg => by
    have hr : ∀ y ∈ r, GoodStep y := fun y hy => hg y (by simp [hy])
    rw [printB, linesB]
    split
    · split
      · exact printB_lines r _ hr
      · rw [List.flatMap_cons, printB_lines r 0 hr]
        congr 1
        exact tickW_line (n + 1)
    · rename_i hk
      rw [List.flatMap_cons, printB_lines r 0 hr]
      congr 1
      rcases hg z (by simp) with rfl | ⟨_, v, h1, _, _, h4⟩
      · exact absurd rfl hk
      · rw [h4, List.dropLast_concat]
theorem rerun (a b c d : Int) : ∀ (L : List StepL) (n k : Nat) (acc : List StepL), k ≠ 0 → (∀ z ∈ L, GoodStep z) → acc.length + n + L.length ≤ 4096 → n < 1000 → (n ≠ 0 → tickNext L = true) →
    runLines (linesB n L) k (a, b, c, d, acc) = ((a, b, c, d, acc ++ List.replicate n (stepK 1 0) ++ L), 0, 0)
  | [], n, k, acc, _, _, _, _, ht => by
    have : n = 0 := by
      apply Decidable.byContradiction
      intro h
      exact absurd (ht h) (by decide)
    subst this
    simp [linesB, runLines]
  | z :: r, n, k, acc, hk, hg, hl, hn, ht => by
    have hr : ∀ y ∈ r, GoodStep y := fun y hy => hg y (by simp [hy])
    simp only [List.length_cons] at hl
    rw [linesB]
    split
    · rename_i hz
      have hze : z = stepK 1 0 := by
        rcases hg z (by simp) with h | h
        · exact h
        · exact absurd hz h.1
      subst hze
      split
      · rename_i hc
        rw [rerun a b c d r (n + 1) k acc hk hr (by omega) hc.2 (fun _ => hc.1)]
        rw [List.replicate_succ']
        simp
      · rw [runLines]
        have e : lineOf (decide (k = 0)) (a, b, c, d, acc) (pieces 32 (tickW (n + 1)) []) = some (a, b, c, d, acc ++ List.replicate (n + 1) (stepK 1 0)) := by
          unfold lineOf
          rw [decide_eq_false hk]
          simp only [Bool.false_eq_true, if_false]
          rw [tick_step (n + 1) (by omega) (by omega)]
          unfold addS
          simp only
          rw [if_pos (by omega)]; rfl
        rw [e]
        simp only
        rw [rerun a b c d r 0 (k + 1) _ (by omega) hr (by simp; omega) (by decide) (fun h => absurd rfl h)]
        rw [List.replicate_succ']
        simp
    · rename_i hz
      have hn0 : n = 0 := by
        apply Decidable.byContradiction
        intro h
        exact hz (of_decide_eq_true (ht h))
      subst hn0
      rcases hg z (by simp) with rfl | ⟨_, v, h1, _, h3, h4⟩
      · exact absurd rfl hz
      · rw [h4, List.dropLast_concat, runLines]
        have e : lineOf (decide (k = 0)) (a, b, c, d, acc) (pieces 32 v []) = some (a, b, c, d, acc ++ [z]) := by
          unfold lineOf
          rw [decide_eq_false hk]
          simp only [Bool.false_eq_true, if_false]
          rw [h3]
          unfold addS
          simp only
          rw [if_pos (by omega)]; rfl
        rw [e]
        simp only
        rw [rerun a b c d r 0 (k + 1) _ (by omega) hr (by simp; omega) (by decide) (fun h => absurd rfl h)]
        simp
theorem flat_join : ∀ (w : List UInt8) (ls : List (List UInt8)), (w :: ls).flatMap (· ++ [10]) = Lib.join (w :: ls) [10] ++ [10]
  | w, [] => by rw [join_one]; simp
  | w, v :: r => by rw [List.flatMap_cons, flat_join v r, join_cons2]; simp
theorem itoa_short : ∀ n : Fin 1001, (Lib.itoa (n.val : Int)).length ≤ 4 := by decide +kernel
theorem printB_len : ∀ (L : List StepL) (n : Nat), n < 1000 → (printB n L).length ≤ nt L + 12 * L.length
  | [], n, _ => by simp [printB, nt]
  | z :: r, n, hn => by
    rw [printB, nt]
    simp only [List.length_cons]
    split
    · split
      · rename_i h; have := printB_len r (n + 1) h.2; omega
      · have h0 := printB_len r 0 (by decide)
        have h1 := itoa_short ⟨n + 1, by omega⟩
        have h2 : (lineL [[116, 105, 99, 107], Lib.itoa ((n + 1 : Nat) : Int)]).length = 6 + (Lib.itoa ((n + 1 : Nat) : Int)).length := by
          rw [show ([116, 105, 99, 107] : List UInt8) = wTick from rfl, tickW_line]; simp [tickW, wTick]; omega
        rw [List.length_append, h2]
        simp only at h1
        omega
    · have h0 := printB_len r 0 (by decide)
      rw [List.length_append]; omega
theorem print_len {x : PS} {B : Nat} (h : GoodScr x B) : (printV x).length ≤ B + 49152 := by
  obtain ⟨w0, _, _, h1, _, _, _, _, _, h2, h3⟩ := h
  unfold printV
  rw [h1]
  have := printB_len x.2.2.2.2 0 (by decide)
  simp only [List.length_append, List.length_singleton]
  omega
theorem back {x : PS} {B : Nat} (h : GoodScr x B) (hB : B ≤ 200000) : parseV (printV x) = (x, 0, 0) := by
  have hlen := print_len h
  obtain ⟨w0, hw0, h1, h2, _, _, _, _, hg, hl, _⟩ := h
  obtain ⟨a, b, c, d, L⟩ := x
  simp only at h1 h2 hg hl
  have e : printV (a, b, c, d, L) = Lib.join (w0 :: linesB 0 L) [10] ++ [10] := by
    rw [← flat_join, List.flatMap_cons, ← printB_lines L 0 hg, ← h2]; rfl
  rw [e] at hlen ⊢
  unfold parseV
  rw [if_neg (by omega)]
  have hs : Lib.hasSuffix (Lib.join (w0 :: linesB 0 L) [10] ++ [10]) [10] = true := (suffix_iff _ _).2 ⟨_, rfl⟩
  rw [if_neg (by rw [hs]; decide), trim_eq, pieces_join 10 _ (by simp) (fun w hw => by
    rcases List.mem_cons.1 hw with rfl | hw
    · exact hw0
    · exact linesB_free L 0 hg w hw), runLines]
  have e1 : lineOf (decide (0 = 0)) ps0 (pieces 32 w0 []) = some (a, b, c, d, []) := by
    unfold lineOf
    simp only [decide_true, if_true]
    rw [h1]; rfl
  rw [e1]
  simp only
  rw [rerun a b c d L 0 (0 + 1) [] (by decide) hg (by simp; omega) (by decide) (fun h => absurd rfl h)]
  simp
end Go.Proofs.YthcleiegefhmdaaGreatDoor
namespace Go.Proofs.YthcleiegefhmdaaGreatDoor
open Go.RowKit Abs
theorem slice_to (get : Nat → Option Blk) (s : ByteArray) (k : Nat) (h : k ≤ s.size) : gSlice Tryz.prog get 9 (.string s) none (some (.int .i64 (k : Int))) = some (.string (str (s.data.toList.take k))) := by
  have hbs : bsize s = s.size := rfl
  unfold gSlice aBound
  simp only [Tryz.underlying9, hbs]
  rw [if_pos (by omega)]
  rfl
set_option maxRecDepth 100000 in
set_option maxHeartbeats 4000000 in
theorem parses_spec (s : ByteArray) (m : Mem) : Abs.Spec Tryz.prog 3 [.string s] m fun u M => u = .bool true := by
  refine Abs.Spec.walkM Tryz.func3 (by rfl) _ Tryz.results3 _ Tryz.ntmps3 (by simp) ?_
  intro hc hx k
  have hal := al_Scr
  have halR := al_RScr
  generalize aStride Tryz.prog 26 = s1 at hal
  generalize aStride Tryz.prog 31 = s2 at halR
  have hbs : bsize s = s.size := rfl
  refine CW_seq (CW_region ?_)
  simp only [zZ, reduceIte, Nat.reduceLT, Int.reduceToNat, Int.reduceLE, Int.reduceEq, Int.reduceLT, Nat.reduceEqDiff, Nat.reduceAdd, zTy]
  refine MW_mid (fun f M => ∃ q : List UInt8, q.length ≤ 20000 ∧ f = [(0, .string (str q))] ∧ M = m) (CW_seq (CW_region ?_)) ?_
  · simp only [zZ, reduceIte, Nat.reduceLT, Int.reduceToNat, Int.reduceLE, Int.reduceEq, Int.reduceLT, Nat.reduceEqDiff, Nat.reduceAdd, zTy, hbs]
    refine CW_cond (decide ((20000 : Int) < (s.size : Int))) (by rfl) (fun h => CW_region ?_) (fun h => CW_skip ?_)
    · have hlt : 20000 < s.size := by have := of_decide_eq_true h; omega
      have hsl : ∀ get, gSlice Tryz.prog get 9 (.string s) none (some (.int .i64 20000)) = some (.string (str (s.data.toList.take 20000))) := fun get => slice_to get s 20000 (by omega)
      simp only [zZ, reduceIte, Nat.reduceLT, Int.reduceToNat, Int.reduceLE, Int.reduceEq, Int.reduceLT, Nat.reduceEqDiff, Nat.reduceAdd, zTy, hsl]
      refine ⟨[0], ?_⟩
      simp only [zZ, reduceIte, Nat.reduceLT, Int.reduceToNat, Int.reduceLE, Int.reduceEq, Int.reduceLT, Nat.reduceEqDiff, Nat.reduceAdd, keepF]
      exact ⟨m, Thin.refl _, _, by rw [List.length_take]; omega, rfl, rfl⟩
    · have hle : s.size ≤ 20000 := by have := of_decide_eq_false h; omega
      simp only [zZ, reduceIte, Nat.reduceLT, Int.reduceToNat, Int.reduceLE, Int.reduceEq, Int.reduceLT, Nat.reduceEqDiff, Nat.reduceAdd, zTy]
      refine ⟨[0], ?_⟩
      simp only [zZ, reduceIte, Nat.reduceLT, Int.reduceToNat, Int.reduceLE, Int.reduceEq, Int.reduceLT, Nat.reduceEqDiff, Nat.reduceAdd, keepF]
      exact ⟨m, Thin.refl _, s.data.toList, by rw [show s.data.toList.length = s.size from rfl]; exact hle, rfl, rfl⟩
  · rintro f M ⟨q, hq, rfl, rfl⟩
    obtain ⟨⟨x, n, e⟩, hr⟩ : ∃ r, r = parseV q := ⟨_, rfl⟩
    have hok : x.2.2.2.2.length ≤ 4096 ∧ ∀ y ∈ x.2.2.2.2, StepOk y := by
      rcases parse_good (by omega) hr.symm with ⟨_, _, w0, _, _, _, _, _, _, _, hg, hl, _⟩ | ⟨_, rfl⟩
      · refine ⟨hl, fun y hy => ?_⟩
        rcases hg y hy with rfl | ⟨_, w, _, h1, h2, _⟩
        · exact exTick_ok
        · exact step_ok h2 h1
      · exact ⟨by decide, fun y hy => by cases hy⟩
    refine CW_seq (CW_region ?_)
    simp only [zZ, reduceIte, Nat.reduceLT, Int.reduceToNat, Int.reduceLE, Int.reduceEq, Int.reduceLT, Nat.reduceEqDiff, Nat.reduceAdd, zTy]
    refine ⟨by kernel_rfl, _, parse_spec pathOk q (by omega) M, ?_⟩
    rw [← hr]
    rintro _ M1 ⟨hk1, hs1, V1, rfl, hV1⟩
    simp only at hV1
    obtain ⟨a1, c1, rfl, _⟩ := id hV1.choose_spec.2.2
    simp only [zZ, reduceIte, Nat.reduceLT, Int.reduceToNat, Int.reduceLE, Int.reduceEq, Int.reduceLT, Nat.reduceEqDiff, Nat.reduceAdd, zTy, scrAgg, hal, Mem.get_push_new, push_set]
    obtain ⟨M2, hM2⟩ : ∃ M2, M2 = M1.push (.cells false s1 [.int .i64 x.1, .int .i64 x.2.1, .int .i64 x.2.2.1, .int .i64 x.2.2.2.1, .slice a1 x.2.2.2.2.length c1]) := ⟨_, rfl⟩
    rw [← hM2]
    have hold2 : ∀ b x, M1.get b = some x → M2.get b = some x := fun b x hx => by rw [hM2, Mem.get_push_old (get_live hx)]; exact hx
    have hb2 : M2.get M1.size = some (.cells false s1 [.int .i64 x.1, .int .i64 x.2.1, .int .i64 x.2.2.1, .int .i64 x.2.2.2.1, .slice a1 x.2.2.2.2.length c1]) := by rw [hM2, Mem.get_push_new]
    refine CW_seq (CW_region ?_)
    simp only [zZ, reduceIte, Nat.reduceLT, Int.reduceToNat, Int.reduceLE, Int.reduceEq, Int.reduceLT, Nat.reduceEqDiff, Nat.reduceAdd, zTy]
    refine ⟨by kernel_rfl, _, rparse_spec q (by omega) M2, ?_⟩
    rw [← hr]
    rintro _ M3 ⟨hk3, hs3, V3, rfl, hV3⟩
    simp only at hV3
    obtain ⟨a3, c3, rfl, _⟩ := id hV3.choose_spec.2.2
    simp only [zZ, reduceIte, Nat.reduceLT, Int.reduceToNat, Int.reduceLE, Int.reduceEq, Int.reduceLT, Nat.reduceEqDiff, Nat.reduceAdd, zTy, scrAgg, halR, Mem.get_push_new, push_set]
    obtain ⟨M4, hM4⟩ : ∃ M4, M4 = M3.push (.cells false s2 [.int .i64 x.1, .int .i64 x.2.1, .int .i64 x.2.2.1, .int .i64 x.2.2.2.1, .slice a3 x.2.2.2.2.length c3]) := ⟨_, rfl⟩
    rw [← hM4]
    have hold4 : ∀ b x, M3.get b = some x → M4.get b = some x := fun b x hx => by rw [hM4, Mem.get_push_old (get_live hx)]; exact hx
    have hb4 : M4.get M3.size = some (.cells false s2 [.int .i64 x.1, .int .i64 x.2.1, .int .i64 x.2.2.1, .int .i64 x.2.2.2.1, .slice a3 x.2.2.2.2.length c3]) := by rw [hM4, Mem.get_push_new]
    have hold24 : ∀ b x, M2.get b = some x → M4.get b = some x := fun b x hx => hold4 b x (keeps_old hk3 b x hx)
    have hb24 := hold24 _ _ hb2
    have nn : ((n == n) = true) ∧ ((e == e) = true) := ⟨by simp, by simp⟩
    refine CW_seq (CW_region ?_)
    simp only [zZ, reduceIte, Nat.reduceLT, Int.reduceToNat, Int.reduceLE, Int.reduceEq, Int.reduceLT, Nat.reduceEqDiff, Nat.reduceAdd, zTy, hb24, hb4]
    have hsame := same_spec x a1 a3 c1 c3 M4 (ScrAt.keep hV1 fun b x hx => hold24 b x (hold2 b x hx)) (ScrAt.keep hV3 hold4) (by omega) (fun y hy => by have := (hok.2 y hy).files; omega)
    refine ⟨by kernel_rfl, _, hsame, ?_⟩
    rintro _ M9 ⟨rfl, e9⟩
    replace e9 := e9.symm
    subst e9
    simp only [zZ, reduceIte, Nat.reduceLT, Int.reduceToNat, Int.reduceLE, Int.reduceEq, Int.reduceLT, Nat.reduceEqDiff, Nat.reduceAdd, zTy, nn.1, nn.2]
    refine ⟨by kernel_rfl, _, awake_spec M4, ?_⟩
    rintro _ M5 ⟨rfl, _⟩
    simp only [zZ, reduceIte, Nat.reduceLT, Int.reduceToNat, Int.reduceLE, Int.reduceEq, Int.reduceLT, Nat.reduceEqDiff, Nat.reduceAdd, zTy]
    refine CW_ret ?_
    simp only [zZ, reduceIte, Nat.reduceLT, Int.reduceToNat, Int.reduceLE, Int.reduceEq, Int.reduceLT, Nat.reduceEqDiff, Nat.reduceAdd, zTy, mEnd, sAnswer, sAnswer.sRes]
    exact ⟨M5, Thin.refl _⟩
#print axioms parses_spec
end Go.Proofs.YthcleiegefhmdaaGreatDoor
namespace Go.Proofs.YthcleiegefhmdaaGreatDoor
open Go.ChangeShapes Go.WideShapes Go.ChangeAt Go.RowKit Abs
theorem tab_of_reads {P : Program} {W : World} {name : String} {k : IntKind} {zs : List Int} {g : Nat} {t e : TypeId} {n : Nat}
    (hg : P.globalNamed name = some g) (hty : (P.globals[g]?).map (·.type) = some t) (ht : P.underlying t = some (.array n e)) (he : P.underlying e = some (.int k)) (hce : P.cellsOf e = 1) (hct : P.cellsOf t = n)
    (h : Lib.VarReads P W name (Lib.tabData k zs)) : Lib.TabIs P W name k zs := by
  obtain ⟨g', t', cs, fuel, p, hg', ht', hvar, hd⟩ := h
  obtain rfl := Option.some.inj (hg.symm.trans hg')
  obtain rfl := Option.some.inj (hty.symm.trans ht')
  unfold Lib.TabIs
  rw [hvar, ← Lib.cells_of_tab ht he hce hct hd]
theorem err_of_reads {P : Program} {W : World} {name : String} {d : DataW Unit} {g : Nat} {t : TypeId} {ms : Array (String × TypeId)}
    (hg : P.globalNamed name = some g) (hty : (P.globals[g]?).map (·.type) = some t) (ht : P.underlying t = some (.interface ms)) (h : Lib.VarReads P W name d) :
    ∃ ev, W.cell? ⟨g, 0, none⟩ = some ev ∧ (ev = .nilIface ∨ ∃ te pe, ev = .iface te pe) := by
  obtain ⟨g', t', cs, fuel, p, hg', ht', hvar, hd⟩ := h
  obtain rfl := Option.some.inj (hg.symm.trans hg')
  obtain rfl := Option.some.inj (hty.symm.trans ht')
  have hc := World.var?_cell hg hvar 0
  obtain ⟨l⟩ := cs
  cases fuel with
  | zero => simp [DataW.trod] at hd
  | succ fuel =>
    unfold DataW.trod at hd
    rw [ht] at hd
    rcases l with _ | ⟨v, _ | ⟨b, r⟩⟩
    · simp at hd
    · cases v <;> first | (simp at hd; done) | exact ⟨_, hc.trans rfl, .inl rfl⟩ | exact ⟨_, hc.trans rfl, .inr ⟨_, _, rfl⟩⟩
    · cases v <;> simp at hd
theorem returns_of_walked_card {C : Checked} {os : Os} {n : FuncId} {f : Func} {s : ChangeSpec} {tb : TypeId} {laid : List (String × DataW Unit)} (own : ownKnob C.prog.godebug = none) (started : os.Started)
    (noInit : C.prog.inits.idxOf? n = none) (hf : C.prog.funcs[n]? = some f) (hl : laidOutB C.prog = true)
    (hs : IsLaw s f.params.size) (hr : f.resultTypes = #[tb]) (hu : C.prog.underlying tb = some .bool) (hp : ∀ t ∈ f.params.toList, C.prog.readableRec t = true ∧ t < C.prog.types.size)
    (hpl : (laid.all fun x => x.2.handleName?.isNone) = true)
    {H : Type} {enc : TypeId × Value → H} (F : Stop.Interp)
    (witness : ∃ (w : World) (tape : Tape) (i : Input), w.os = os ∧ (w.forCall tape i).Shaped C.prog ∧ i.vars = [] ∧ Input.okWide C.prog (w.forCall tape i) .any w.heap.size n i ∧
      (OpenSpec.ofChange s).preRow enc C.prog f [] false laid (w.forCall tape i).memory i.args ∧ Assume.holds {} C.prog (lone (Frame.enter C.prog n i.args .normal) [] (w.forCall tape i)))
    (walk : ∀ (W : World) (base : Nat) (args : Array Value) (ds : List (DataW H)) (ps : List MemPlace), laidMet C.prog laid W → W.ShapedOpen C.prog → (∀ (j : Nat) t v, f.params[j]? = some t → args[j]? = some v → Value.okWide C.prog W .any base t v) →
      DataW.TrodAll enc C.prog W 0 (fun _ => true) true f.params.toList args.toList ds ps → (∀ x ∈ DataW.weightsEach C.prog f.params.toList ds, x ≤ reachBytes) →
      Calls C.prog n args W fun e W' => e = .returned (.bool true) ∧ Below W.heap.size W W') :
    ReturnsInHanded {} C os n .any ((OpenSpec.ofChange s).preRow enc C.prog f [] false laid) (((OpenSpec.ofChange s).at F).post enc C.prog f false true false false) := by
  refine returnsInHanded_of_row (C := C) (s := OpenSpec.ofChange s) own started noInit hf witness ?_
  intro W base args ds gs before hval hW _ _ hz hL hS _
  obtain ⟨p, q, hA, hV, rfl, hfz, hnd⟩ := id hW
  have hv : (OpenSpec.ofChange s).vars = [] := hs.1
  have hv0 : s.vars = [] := hs.1
  rw [hv] at hV
  obtain ⟨rfl, rfl⟩ := trodVars_none hV
  rw [List.append_nil] at hz
  have hz' : ∀ x ∈ DataW.weightsEach C.prog f.params.toList ds, x ≤ reachBytes := by
    have e : (OpenSpec.ofChange s).bare.plain.varTypes C.prog = [] := by
      show s.plain.varTypes C.prog = []
      simp [ChangeSpec.plain, hv0, DataSpec.varTypes]
    rw [e, List.append_nil] at hz
    intro x hx
    simpa using List.all_eq_true.1 hz x hx
  rw [MakeChecks.laidMetH_plain _ _ _ hpl] at hL
  refine (walk W base args ds p hL hS hval hA hz').mono fun e W' ⟨he, hb⟩ => ?_
  exact ⟨_, he, law_post hl hs hr hu hp hW hb⟩
end Go.Proofs.YthcleiegefhmdaaGreatDoor
