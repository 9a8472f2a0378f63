/-
  How a law's row follows from its walk: 'the call returns true and turns nothing that was there', for whatever arguments. No condition of its own.
  How values in memory read as plain Lean data: an element of so many cells, a slice of such elements; and how this stays while nothing old is turned.
  SHA-256 as plain functions on lists of bytes. No program here.
  The walks of sha: the schedule.
  The walks of sha: the number of a round.
  The walks of sha: one block.
  A region that draws its order, whose operations but the last ones read old memory or call functions that make memory of their own; the last ones, in one forced order, do whatever they do.
  After the library's two elder forms: the walk over one world with a tail, and the walk over a class of worlds without one.
  Texts as lists of bytes, and their cells.
  The walks of sha: a text that is summed part by part.
  The walks of sha: what the sum is.
  The walks of sha: New, Sum.
  Tags, keys, trees of sums as plain functions on lists of bytes. No program here.
  The walks of mac.
  The walks of mac: tags, and their comparison.
-/
import Derived.Test.YtfdijpacbhomjaaGreatDoorRows
import Derived.WalkKit
import Derived.ProofKit
import Derived.OpenShut
import Derived.ShutString
import Derived.ChangeOld
import Derived.Below
import Derived.JoinedCond
import Derived.Lib.Hide
import Derived.Deep.QuietTactic
import Derived.BigQuiet
import Derived.StillTailTactics
import Derived.Laws.EntriesVeiled
import Derived.WalkLawsBesides
import Derived.Outline
import Derived.Laws.CopyOwn
import Derived.Deep.DeepMust
import Derived.RowKit
import Derived.Lib.AppendStr
import Derived.Deep.LoopGhost
import Derived.Lib.BufferWrite
set_option linter.all false
namespace Go.Proofs.YtfdijpacbhomjaaGreatDoor
open Go.ChangeShapes Go.WideShapes Go.ChangeAt Go.RowKit
def IsLaw (s : ChangeSpec) (n : Nat) : Prop := s.vars = [] ∧ ∀ (H : Type) (ds : List (DataW H)), ds.length = n → s.fn H ds = { results := [.lit (.bool true)], args := ds }
theorem trodAll_length {H : Type} {enc : TypeId × Value → H} {P : Program} {w : World} {base : Nat} {sp : Nat → Bool} {hd : Bool} :
    ∀ (ts : List TypeId) (vs : List Value) (ds : List (DataW H)) (ps : List MemPlace), DataW.TrodAll enc P w base sp hd ts vs ds ps → ds.length = ts.length ∧ vs.length = ts.length
  | [], [], [], _, _ => ⟨rfl, rfl⟩
  | _ :: ts, _ :: vs, _ :: ds, _, h => by
    obtain ⟨_, q, _, h2, _⟩ := h
    obtain ⟨a, b⟩ := trodAll_length ts vs ds q h2
    exact ⟨by simp [a], by simp [b]⟩
  | [], _ :: _, _, _, h => by simp [DataW.TrodAll] at h
  | [], [], _ :: _, _, h => by simp [DataW.TrodAll] at h
  | _ :: _, [], _, _, h => by simp [DataW.TrodAll] at h
  | _ :: _, _ :: _, [], _, h => by simp [DataW.TrodAll] at h
theorem trodAll_below {H : Type} {enc : TypeId × Value → H} {P : Program} (hl : laidOutB P = true) {W W' : World} (hb : Below W.heap.size W W') :
    ∀ (ts : List TypeId) (vs : List Value) (ds : List (DataW H)) (ps : List MemPlace), (∀ t ∈ ts, P.readableRec t = true ∧ t < P.types.size) →
      DataW.TrodAll enc P W 0 (fun _ => true) true ts vs ds ps → DataW.TrodAll enc P W' 0 (fun b => decide (b < W.heap.size)) true ts vs ds ps
  | [], [], [], _, _, h => h
  | t :: ts, _ :: vs, _ :: ds, _, ht, h => by
    obtain ⟨p, q, h1, h2, rfl⟩ := h
    have lt1 : ∀ x ∈ p, x.block < W.heap.size := by obtain ⟨m, hm⟩ := h1; exact DataW.trod_lt m _ _ _ hm
    obtain ⟨r1, r2⟩ := ht t (by simp)
    exact ⟨p, q, Below.trod hl r1 r2 h1 hb lt1, trodAll_below hl hb ts vs ds q (fun t' ht' => ht t' (by simp [ht'])) h2, rfl⟩
  | [], _ :: _, _, _, _, h => by simp [DataW.TrodAll] at h
  | [], [], _ :: _, _, _, h => by simp [DataW.TrodAll] at h
  | _ :: _, [], _, _, _, h => by simp [DataW.TrodAll] at h
  | _ :: _, _ :: _, [], _, _, h => by simp [DataW.TrodAll] at h
theorem law_post {H : Type} {enc : TypeId × Value → H} {P : Program} {f : Func} {s : ChangeSpec} {tb : TypeId} (hl : laidOutB P = true)
    (hs : IsLaw s f.params.size) (hr : f.resultTypes = #[tb]) (hu : P.underlying tb = some .bool) (hp : ∀ t ∈ f.params.toList, P.readableRec t = true ∧ t < P.types.size)
    {W W' : World} {args : Array Value} {ds gs : List (DataW H)} {before : List MemPlace}
    (hW : DataW.Whole enc P f.params.toList s.vars false W args.toList ds gs before) (hb : Below W.heap.size W W') :
    s.post enc P f false true false false W args (.bool true) W' := by
  have hW' := hW
  obtain ⟨p, q, hA, hV, rfl, hfz, hnd⟩ := hW
  obtain ⟨hv, hs⟩ := hs
  rw [hv] at hV
  obtain ⟨rfl, rfl⟩ := trodVars_none hV
  have hfn : s.fn H (ds ++ []) = { results := [.lit (.bool true)], args := ds } := by
    rw [List.append_nil]
    exact hs H ds (by have := (trodAll_length _ _ _ _ hA).1; simpa using this)
  refine ⟨ds, [], _, [], p, [], hW', ?_, ?_, ?_, hb.frame _, fun h => by cases h⟩
  · rw [hfn, hr]
    exact trodAll_mk1 (shut_bool hu _)
  · rw [hfn]
    exact trodAll_below hl hb _ _ _ _ hp hA
  · rw [hv, hfn]; rfl
theorem own : ownKnob Tryz.prog.godebug = none := by kernel_rfl
theorem laidOut : laidOutB Tryz.prog = true := by kernel_rfl
end Go.Proofs.YtfdijpacbhomjaaGreatDoor
namespace Go.Proofs.YtfdijpacbhomjaaGreatDoor
open Go.ChangeShapes Go.WideShapes Go.ChangeAt Go.RowKit
structure Shape (α : Type) where
  n : Nat
  rep : World → List Value → α → Prop
  len : ∀ {w : World} {cs : List Value} {a : α}, rep w cs a → cs.length = n
  mono : ∀ {w w' : World} {cs : List Value} {a : α}, rep w cs a → Below w.heap.size w w' → rep w' cs a
def Shape.flat {α : Type} (n : Nat) (cells : α → List Value) (h : ∀ a, (cells a).length = n) : Shape α :=
  { n := n, rep := fun _ cs a => cs = cells a, len := fun e => by rw [e]; exact h _, mono := fun h _ => h }
def ElemsAt {α : Type} (S : Shape α) (w : World) (a : Option Addr) (cap : Nat) (xs : List α) : Prop :=
  (xs = [] ∧ cap ≤ maxLen ∧ (a = none → cap = 0)) ∨ ∃ b off, a = some ⟨b, off, none⟩ ∧ b < w.heap.size ∧ xs.length ≤ cap ∧ cap ≤ maxLen ∧
    ∀ (i : Nat) (x : α), xs[i]? = some x → ∃ cs, S.rep w cs x ∧ ∀ j c, cs[j]? = some c → w.cell? ⟨b, off + i * S.n + j, none⟩ = some c
theorem ElemsAt.mono {α : Type} {S : Shape α} {w w' : World} {a : Option Addr} {cap : Nat} {xs : List α} (h : ElemsAt S w a cap xs) (hb : Below w.heap.size w w') : ElemsAt S w' a cap xs := by
  rcases h with h | ⟨b, off, rfl, hlt, hl, hm, hc⟩
  · exact .inl h
  · refine .inr ⟨b, off, rfl, Nat.lt_of_lt_of_le hlt hb.size, hl, hm, fun i x hx => ?_⟩
    obtain ⟨cs, h1, h2⟩ := hc i x hx
    exact ⟨cs, S.mono h1 hb, fun j c hj => by rw [hb.cell (p := ⟨b, off + i * S.n + j, none⟩) hlt]; exact h2 j c hj⟩
def SliceOf {α : Type} (S : Shape α) (w : World) (v : Value) (xs : List α) : Prop := ∃ a cap, v = .slice a xs.length cap ∧ ElemsAt S w a cap xs
theorem SliceOf.mono {α : Type} {S : Shape α} {w w' : World} {v : Value} {xs : List α} (h : SliceOf S w v xs) (hb : Below w.heap.size w w') : SliceOf S w' v xs := by
  obtain ⟨a, cap, rfl, he⟩ := h
  exact ⟨a, cap, rfl, he.mono hb⟩
theorem SliceOf.nil {α : Type} (S : Shape α) (w : World) : SliceOf S w (.slice none 0 0) [] := ⟨none, 0, rfl, .inl ⟨rfl, Nat.zero_le _, fun _ => rfl⟩⟩
theorem ElemsAt.at {α : Type} {S : Shape α} {w : World} {a : Option Addr} {cap : Nat} {xs : List α} (h : ElemsAt S w a cap xs) {i : Nat} (hi : i < xs.length) :
    ∃ b off, a = some ⟨b, off, none⟩ ∧ b < w.heap.size ∧ ∃ cs, S.rep w cs xs[i] ∧ ∀ j c, cs[j]? = some c → w.cell? ⟨b, off + i * S.n + j, none⟩ = some c := by
  rcases h with ⟨rfl, _⟩ | ⟨b, off, rfl, hlt, _, _, hc⟩
  · simp at hi
  · exact ⟨b, off, rfl, hlt, hc i _ (List.getElem?_eq_getElem hi)⟩
theorem SliceOf.owned {α : Type} {S : Shape α} {w : World} {base e n : Nat} {v : Value} {css : List Value} {xs : List α} (h : w.ownsRow base e S.n v n css) (hn : n = xs.length) (hpos : 0 < S.n)
    (hr : ∀ (i : Nat) (x : α), xs[i]? = some x → ∃ cs, S.rep w cs x ∧ ∀ j c, cs[j]? = some c → css[i * S.n + j]? = some c) : SliceOf S w v xs := by
  subst hn
  obtain ⟨hl, h⟩ := h
  rcases h with ⟨rfl, h0⟩ | ⟨g, cap, cur, rfl, hb, hg, hc, hm, hs, ht⟩
  · have : xs = [] := List.length_eq_zero_iff.1 h0
    subst this
    exact SliceOf.nil S w
  · refine ⟨some ⟨g, 0, none⟩, cap, rfl, .inr ⟨g, 0, rfl, ?_, hc, hm, fun i x hx => ?_⟩⟩
    · have : w.heap[g]? ≠ none := by rw [hg]; simp
      simpa using this
    · obtain ⟨cs, h1, h2⟩ := hr i x hx
      refine ⟨cs, h1, fun j c hj => ?_⟩
      have h3 := h2 j c hj
      rw [← ht] at h3
      rw [List.getElem?_take] at h3
      split at h3
      · simp [World.cell?, hg]
        simpa using h3
      · cases h3
theorem ownsRow_below {w w' : World} {base e size n : Nat} {v : Value} {xs : List Value} (h : w.ownsRow base e size v n xs) (hb : Below w.heap.size w w') : w'.ownsRow base e size v n xs := by
  obtain ⟨h1, h2⟩ := h
  refine ⟨h1, ?_⟩
  rcases h2 with h2 | ⟨g, cap, cur, hv, hg, hh, r⟩
  · exact Or.inl h2
  · refine Or.inr ⟨g, cap, cur, hv, hg, ?_, r⟩
    have : g < w.heap.size := by
      have : w.heap[g]? ≠ none := by rw [hh]; simp
      simpa using this
    rw [hb.block g this]; exact hh
theorem wpList_append_elem {P : Program} {w : World} {ops : Array Oper} {rest : List Oper} {o : Oper} {a : Act} {Q : Exit → Act → World → Prop} (hgd : o.guard = none) (s x : Operand) (t : TypeId)
    (ho : o.op = .call { callee := .builtin .append, args := #[s, x], argTypes := #[t, t] })
    (base e : Nat) (z : Value) (size bytes : Nat) (ht : P.underlying t = some (.slice e)) (hi : (P.info? e).map (fun i => (i.zero, i.size, i.bytes)) = some (some z, size, bytes))
    (hzs : z.cells.size = size) (hsz : 0 < size) (v : Value) (n : Nat) (xs : List Value) (hs : a.eval s = v) (hown : w.ownsRow base e size v n xs)
    (C : Array Value) (hx : a.eval x = .slice (some ⟨w.heap.size, 0, none⟩) 1 1) (hl : C.size = size) (h1 : ∀ u ∈ C.toList, u.oneCell' = true)
    (hbytes : (n + 1) * bytes ≤ 140737488355328) (hby : 0 < bytes) (hbase : base ≤ w.heap.size)
    (h : ∀ v' w', w'.ownsRow base e size v' (n + 1) (xs ++ C.toList) → (w.alloc (.cells C e)).grownBy w' v.ownBlock → wpList P ops Q rest (a.put o.dst v') w') :
    wpList P ops Q (o :: rest) a (w.alloc (.cells C e)) := by
  obtain ⟨i, hi, hz, hsize, hbs⟩ := info_parts hi
  refine wpList_append_own _ hgd s x t ho base e i z size bytes ht hi hz hsize hbs hzs hsz v n xs hs (hown.alloc _) ⟨w.heap.size, 0, none⟩ 1 1 C.toList hx (by simpa using hl) ?_ h1 ?_ hbytes (by simp; omega) (fun v' w' h2 h3 _ => h v' w' h2 h3)
  · intro j u hj
    have e : (⟨w.heap.size, 0, none⟩ : Addr).add j = ⟨w.heap.size, j, none⟩ := by cases j <;> simp [Addr.add]
    rw [e, World.cell?_alloc_new]
    simpa using hj
  · have : n + 1 ≤ (n + 1) * bytes := Nat.le_mul_of_pos_right _ hby
    simp only [maxLen]; omega
theorem wpList_append_lit {P : Program} {w : World} {ops : Array Oper} {rest : List Oper} {o : Oper} {a : Act} {Q : Exit → Act → World → Prop} (hgd : o.guard = none) (s x : Operand) (t : TypeId)
    (ho : o.op = .call { callee := .builtin .append, args := #[s, x], argTypes := #[t, t] })
    (base e : Nat) (z : Value) (bytes : Nat) (ht : P.underlying t = some (.slice e)) (hi : (P.info? e).map (fun i => (i.zero, i.size, i.bytes)) = some (some z, 1, bytes))
    (hzs : z.cells.size = 1) (v : Value) (n : Nat) (xs : List Value) (hs : a.eval s = v) (hown : w.ownsRow base e 1 v n xs)
    (C : Array Value) (m : Nat) (hx : a.eval x = .slice (some ⟨w.heap.size, 0, none⟩) m m) (hl : C.size = m) (h1 : ∀ u ∈ C.toList, u.oneCell' = true)
    (hbytes : (n + m) * bytes ≤ 140737488355328) (hby : 0 < bytes) (hbase : base ≤ w.heap.size)
    (h : ∀ v' w', w'.ownsRow base e 1 v' (n + m) (xs ++ C.toList) → (w.alloc (.cells C e)).grownBy w' v.ownBlock → wpList P ops Q rest (a.put o.dst v') w') :
    wpList P ops Q (o :: rest) a (w.alloc (.cells C e)) := by
  obtain ⟨i, hi, hz, hsize, hbs⟩ := info_parts hi
  refine wpList_append_own _ hgd s x t ho base e i z 1 bytes ht hi hz hsize hbs hzs (by decide) v n xs hs (hown.alloc _) ⟨w.heap.size, 0, none⟩ m m C.toList hx (by simpa using hl) ?_ h1 ?_ hbytes (by simp; omega) (fun v' w' h2 h3 _ => h v' w' h2 h3)
  · intro j u hj
    have e : (⟨w.heap.size, 0, none⟩ : Addr).add j = ⟨w.heap.size, j, none⟩ := by cases j <;> simp [Addr.add]
    rw [e, World.cell?_alloc_new]
    simpa using hj
  · have : n + m ≤ (n + m) * bytes := Nat.le_mul_of_pos_right _ hby
    simp only [maxLen]; omega
theorem wpList_append_flat {α : Type} {P : Program} {w : World} {ops : Array Oper} {rest : List Oper} {o : Oper} {a : Act} {Q : Exit → Act → World → Prop} (c : α → Value) (hc1 : ∀ x, (c x).oneCell' = true) (hgd : o.guard = none) (s x : Operand) (t : TypeId)
    (ho : o.op = .call { callee := .builtin .append, args := #[s, x], argTypes := #[t, t] })
    (base e : Nat) (z : Value) (bytes : Nat) (ht : P.underlying t = some (.slice e)) (hi : (P.info? e).map (fun i => (i.zero, i.size, i.bytes)) = some (some z, 1, bytes))
    (hzs : z.cells.size = 1) (v : Value) (n : Nat) (ys : List Value) (hs : a.eval s = v) (hown : w.ownsRow base e 1 v n ys)
    (ad : Option Addr) (len cap : Nat) (xs : List α) (hlen : xs.length = len) (hx : a.eval x = .slice ad len cap) (he : ElemsAt (Shape.flat 1 (fun x => [c x]) (fun _ => rfl)) w ad cap xs)
    (hbytes : (n + len) * bytes ≤ 140737488355328) (hby : 0 < bytes) (hbase : base ≤ w.heap.size)
    (h : ∀ v' w', w'.ownsRow base e 1 v' (n + len) (ys ++ xs.map c) → w.grownBy w' v.ownBlock → wpList P ops Q rest (a.put o.dst v') w') :
    wpList P ops Q (o :: rest) a w := by
  obtain ⟨i, hi, hz, hsize, hbs⟩ := info_parts hi
  subst hlen
  have h63 : n + xs.length ≤ maxLen := by
    have : n + xs.length ≤ (n + xs.length) * bytes := Nat.le_mul_of_pos_right _ hby
    simp only [maxLen]; omega
  cases ad with
  | none =>
    rcases he with ⟨rfl, _, h0⟩ | ⟨b, off, h0, _⟩
    · have hc0 := h0 rfl
      subst hc0
      refine wpList_plain hgd fun K hK => ?_
      have hr := run_append_owned_none (P := P) (w := w) base t o.type e i 1 ht hi v n ys hown
      unfold Oper.wp execOp
      simp only [ho, resolve, invoke, builtin, Sem.run_bind, Sem.run_pure, Result.andThen_ok, List.map_toArray, List.map_cons, List.map_nil, hs, hx, hr, List.length_nil]
      exact hK _ _ (h v w (by simpa using hown) ⟨rfl, rfl, rfl, Nat.le_refl _, fun _ _ _ => rfl⟩)
    · cases h0
  | some ad =>
    refine wpList_append_own _ hgd s x t ho base e i z 1 bytes ht hi hz hsize hbs hzs (by decide) v n ys hs hown ad xs.length cap (xs.map c) hx (by simp) ?_ (by simpa using fun x _ => hc1 x) h63 hbytes hbase (fun v' w' h2 h3 _ => h v' w' h2 h3)
    intro j u hj
    rcases he with ⟨rfl, _⟩ | ⟨b, off, h0, _, _, _, hc⟩
    · simp at hj
    · cases h0
      simp only [List.getElem?_map, Option.map_eq_some_iff] at hj
      obtain ⟨x, hx, rfl⟩ := hj
      obtain ⟨cs, rfl, hcs⟩ := hc j x hx
      have := hcs 0 _ rfl
      have e : (⟨b, off, none⟩ : Addr).add j = ⟨b, off + j * 1 + 0, none⟩ := by cases j <;> simp [Addr.add]
      rw [e]
      exact this
theorem below_append {B : Nat} {W w w' : World} {o : Obj} {v : Value} {base e size n : Nat} {xs : List Value} (h : Below B W w) (hown : w.ownsRow base e size v n xs) (hg : (w.alloc o).grownBy w' v.ownBlock) (hB : B ≤ w.heap.size) (hb : B ≤ base) : Below B W w' :=
  (h.alloc hB o).grown hg (by simp; omega) (fun k hk => Nat.le_trans hb (hown.lt k hk).1)
def strS : Shape ByteArray := Shape.flat 1 (fun s => [.string s]) (fun _ => rfl)
theorem ElemsAt.str {w : World} {a : Option Addr} {cap : Nat} {ss : List ByteArray} (h : ElemsAt strS w a cap ss) {i : Nat} (hi : i < ss.length) :
    ∃ b off, a = some ⟨b, off, none⟩ ∧ b < w.heap.size ∧ w.cell? ⟨b, off + i, none⟩ = some (.string ss[i]) := by
  obtain ⟨b, off, rfl, hb, cs, rfl, hc⟩ := h.at hi
  exact ⟨b, off, rfl, hb, by simpa [strS, Shape.flat] using hc 0 _ rfl⟩
theorem cell_of {w : World} {g : Nat} {C : Array Value} {T : TypeId} {fr : Nat × Nat} (h : w.heap[g]? = some (.cells C T fr)) (i : Nat) : w.cell? ⟨g, i, none⟩ = C[i]? := by simp [World.cell?, h]
theorem cells_add {w : World} {g : Nat} {C : Array Value} {T : TypeId} {fr : Nat × Nat} (h : w.heap[g]? = some (.cells C T fr)) (j : Nat) : w.cell? ((⟨g, 0, none⟩ : Addr).add j) = C[j]? := by
  have e : (⟨g, 0, none⟩ : Addr).add j = ⟨g, j, none⟩ := by cases j <;> simp [Addr.add]
  rw [e]; exact cell_of h j
theorem frozen_of {w : World} {g : Nat} {C : Array Value} {T : TypeId} (h : w.heap[g]? = some (.cells C T (0, 0))) (i : Nat) : w.frozen? ⟨g, i, none⟩ = false := by simp [World.frozen?, h]
theorem lt_of_heap {w : World} {g : Nat} {o : Obj} (h : w.heap[g]? = some o) : g < w.heap.size := by
  have : w.heap[g]? ≠ none := by rw [h]; simp
  simpa using this
theorem heap_setCell {w : World} {g : Nat} {C : Array Value} {T : TypeId} {fr : Nat × Nat} (h : w.heap[g]? = some (.cells C T fr)) (i : Nat) (v : Value) :
    (w.setCell ⟨g, i, none⟩ v).heap[g]? = some (.cells (C.setIfInBounds i v) T fr) := by
  simp [World.setCell, Array.getElem?_modify, h]
theorem heap_setCell_ne {w : World} {g : Nat} {a : Addr} (hne : g ≠ a.block) (v : Value) : (w.setCell a v).heap[g]? = w.heap[g]? := Below.heap_setCell w a v g hne
theorem heap_alloc_old {w : World} {g : Nat} {o o' : Obj} (h : w.heap[g]? = some o) : (w.alloc o').heap[g]? = some o := by
  rw [Below.heap_alloc _ _ _ (lt_of_heap h)]; exact h
theorem heap_alloc_new (w : World) (o : Obj) : (w.alloc o).heap[w.heap.size]? = some o := by
  show (w.heap.push o)[w.heap.size]? = _
  simp
theorem heap_alloc_at {w : World} {n : Nat} (hn : n = w.heap.size) (o : Obj) : (w.alloc o).heap[n]? = some o := by subst hn; exact heap_alloc_new w o
theorem heap_below {w w' : World} {g : Nat} {o : Obj} (h : w.heap[g]? = some o) (hb : Below w.heap.size w w') : w'.heap[g]? = some o := by rw [hb.block g (lt_of_heap h)]; exact h
theorem wpList_store_new {P : Program} {ops : Array Oper} {rest : List Oper} {o : Oper} {a : Act} {w : World} {Q : Exit → Act → World → Prop} {old : Array Value} {T : TypeId} (hgd : o.guard = none) (ty : TypeId) (x y : Operand) (ho : o.op = .store ty x y)
    (cells : Array Value) (hx : a.eval x = .pointer (some ⟨w.heap.size, 0, none⟩)) (hy : a.eval y = .agg cells) (hi : (P.info? ty).map (·.size) = some cells.size)
    (hold : old.size = cells.size) (h1 : cells.all (·.oneCell') = true)
    (h : ∀ wz, wz.heap[w.heap.size]? = some (.cells cells T (0, 0)) → Below w.heap.size w wz → wz.heap.size = w.heap.size + 1 → wpList P ops Q rest (a.put o.dst undef) wz) : wpList P ops Q (o :: rest) a (w.alloc (.cells old T)) :=
  wpList_store_row hgd ty x y ho w.heap.size cells hx hy T old (heap_alloc_new _ _) hi hold h1
    (h _ (setRow_heap _ _ _ _ _ _ (heap_alloc_new _ _)) (below_setRow ((Below.refl w.heap.size w).alloc (Nat.le_refl _) _) (Nat.le_refl w.heap.size) cells) (by simp [World.setRow]))
theorem ownsRow_setCell_ne {w : World} {base e size n : Nat} {v : Value} {xs : List Value} (h : w.ownsRow base e size v n xs) (p : Addr) (hne : v.ownBlock ≠ some p.block) (u : Value) : (w.setCell p u).ownsRow base e size v n xs := by
  obtain ⟨h1, h2⟩ := h
  refine ⟨h1, ?_⟩
  rcases h2 with h2 | ⟨g, cap, cur, rfl, hg, hh, r⟩
  · exact Or.inl h2
  · refine Or.inr ⟨g, cap, cur, rfl, hg, ?_, r⟩
    rw [heap_setCell_ne (by intro e; exact hne (by simp [Value.ownBlock, e]))]; exact hh
theorem ownBlock_ne {w : World} {base e size n : Nat} {v : Value} {xs : List Value} (h : w.ownsRow base e size v n xs) {g : Nat} {C : Array Value} {T : TypeId} {fr : Nat × Nat} (hg : w.heap[g]? = some (.cells C T fr)) (hT : T ≠ e) : v.ownBlock ≠ some g := by
  rcases h.2 with ⟨rfl, _⟩ | ⟨g', cap, cur, rfl, _, hh, _⟩
  · simp [Value.ownBlock]
  · intro e
    simp only [Value.ownBlock, Option.some.injEq] at e
    subst e
    rw [hg] at hh
    cases hh
    exact hT rfl
theorem elems_of_owned {α : Type} (c : α → Value) {w : World} {base e n : Nat} {v : Value} {xs : List α} (h : w.ownsRow base e 1 v n (xs.map c)) : SliceOf (Shape.flat 1 (fun x => [c x]) (fun _ => rfl)) w v xs := by
  have hn : n = xs.length := by have := h.1; simp at this; omega
  refine SliceOf.owned (S := Shape.flat 1 (fun x => [c x]) (fun _ => rfl)) h hn (Nat.lt_succ_self 0) fun i x hx => ⟨_, rfl, fun j u hj => ?_⟩
  cases j with
  | zero => simp [Shape.flat, hx] at hj ⊢; exact hj
  | succ j => simp at hj
structure Same (w w' : World) : Prop where
  heap : w'.heap = w.heap
  os : w'.os = w.os
  tape : w'.tape = w.tape
  output : w'.output = w.output
theorem Same.below {w w' : World} (h : Same w w') (B : Nat) : Below B w w' := ⟨h.os, h.tape, h.output, by rw [h.heap]; exact Nat.le_refl _, fun k _ => by rw [h.heap]⟩
theorem Same.at {w w' : World} (h : Same w w') {g : Nat} {o : Obj} (hg : w.heap[g]? = some o) : w'.heap[g]? = some o := by rw [h.heap]; exact hg
theorem Same.size {w w' : World} (h : Same w w') : w'.heap.size = w.heap.size := by rw [h.heap]
theorem quiet_add {P : Program} {f : FuncId} {args : Array Value} {w : World} {a n : Nat} {v : Value}
    (h : Calls P f args (w.drewN (a + n)) fun e w' => e = .returned v ∧ ∃ m, w' = (w.drewN (a + n)).drewN m) :
    Calls P f args (w.drewN (a + n)) fun e w'' => e = .returned v ∧ ∃ m, w'' = w.drewN (a + m) :=
  h.mono fun _ _ ⟨he, m, hm⟩ => ⟨he, n + m, by rw [hm, World.drewN_drewN, Nat.add_assoc]⟩
theorem Same.drewN (w : World) (n : Nat) : Same w (w.drewN n) := ⟨rfl, rfl, rfl, rfl⟩
theorem Same.trans {a b c : World} (h : Same a b) (k : Same b c) : Same a c := ⟨k.heap.trans h.heap, k.os.trans h.os, k.tape.trans h.tape, k.output.trans h.output⟩
theorem Same.cell {w w' : World} (h : Same w w') {a : Addr} {v : Value} (hc : w.cell? a = some v) : w'.cell? a = some v := by
  rw [World.cell?_of_block (w := w) (by rw [h.heap])]; exact hc
theorem region_pure {P : Program} {id : Nat} {Q : Exit → Act → World → Prop} {a : Act} {w : World} {l : List Oper} (hm : P.follows .mixedOrders = true) (hB : Region.lexB .any l.toArray = true)
    (h : ∀ (I : Type) (_ : Nonempty I) (f : I → World), (∀ i, Below w.heap.size w (f i)) → Hid (∀ w', Below w.heap.size w w' → ∃ j, w' = f j) →
      wpQuiet P l.toArray (fun w' => ∃ i, w' = f i) (fun a' => ∀ i, Q .normal a' (f i)) l a) : (Code.region id l.toArray true).wp P Q a w := by
  let I := { w' : World // Below w.heap.size w w' }
  have hn : Nonempty I := ⟨⟨w, Below.refl _ _⟩⟩
  have h' := h I hn (fun i => i.val) (fun i => i.property) (fun w' hw => ⟨⟨w', hw⟩, rfl⟩)
  refine wp_region_quiet (C := fun w' => ∃ i : I, w' = i.val) hm hB ?_ ?_
  · exact ⟨⟨_, (Below.refl _ w).drew⟩, rfl⟩
  · have e : (fun a' => ∀ i : I, Q .normal a' i.val) = (fun a' => ∀ w', (∃ i : I, w' = i.val) → Q .normal a' w') := by
      funext a'
      apply propext
      constructor
      · rintro hi w' ⟨i, rfl⟩; exact hi i
      · intro hi i; exact hi _ ⟨i, rfl⟩
    rw [e] at h'
    simpa using h'
theorem pure_of {P : Program} {w : World} {I : Type} {f : I → World} (hf : ∀ i, Below w.heap.size w (f i)) (hback : Hid (∀ w', Below w.heap.size w w' → ∃ j, w' = f j)) {n : FuncId} {args : Array Value} {v : Value} {i : I}
    (h : Calls P n args (f i) fun e w' => e = .returned v ∧ Below (f i).heap.size (f i) w') : Calls P n args (f i) fun e w'' => e = .returned v ∧ ∃ j, w'' = f j :=
  h.mono fun _ _ ⟨he, hb⟩ => ⟨he, hback _ ((hf i).trans (hb.mono (hf i).size))⟩
theorem idx (e : Int) (n : Nat) (h : e = n) (hn : n ≤ 4611686018427387904) : IntKind.i64.wrap e = e ∧ 0 ≤ e ∧ e.toNat = n := by
  subst h
  refine ⟨?_, by omega, by simp⟩
  rw [IntKind.wrap_i64]; omega
theorem region_tail {P : Program} {id : Nat} {Q : Exit → Act → World → Prop} {a : Act} {w : World} {l : List Oper} (n : Nat) (hm : P.follows .mixedOrders = true) (hB : Region.lexTailB .any l.toArray n = true)
    (h : ∀ w2 : World, Same w w2 → wpStill P l.toArray w2 (fun a' => wpList P l.toArray Q (l.drop n) a' w2) (l.take n) a) : (Code.region id l.toArray true).wp P Q a w :=
  wp_region_still_tail n hm hB (h _ ⟨rfl, rfl, rfl, rfl⟩)
section
variable {H : Type} {enc : TypeId × Value → H} {P : Program} {w : World}
theorem mapM_get {α β : Type} {f : α → Option β} : ∀ {l : List α} {r : List β}, l.mapM f = some r → r.length = l.length ∧ ∀ i (h : i < l.length), f l[i] = r[i]?
  | [], r, h => by
    simp only [List.mapM_nil, Option.pure_def, Option.some.injEq] at h
    subst h
    exact ⟨rfl, fun i h => by simp at h⟩
  | a :: l, r, h => by
    simp only [List.mapM_cons, Option.pure_def, Option.bind_eq_bind, Option.bind_eq_some_iff] at h
    obtain ⟨b, hb, r', hr, he⟩ := h
    simp only [Option.some.injEq] at he
    subst he
    obtain ⟨h1, h2⟩ := mapM_get hr
    refine ⟨by simp [h1], fun i hi => ?_⟩
    cases i with
    | zero => simpa using hb
    | succ i => simpa using h2 i (by simpa using hi)
theorem cells?_get {base : Nat} {a : Addr} {n : Nat} {cs : List Value} (h : w.cells? base a n = some cs) : cs.length = n ∧ ∀ j c, cs[j]? = some c → w.cell? (a.add j) = some c := by
  unfold World.cells? at h
  split at h
  · obtain ⟨h1, h2⟩ := mapM_get h
    refine ⟨by simpa using h1, fun j c hj => ?_⟩
    have hlt : j < cs.length := by
      have := List.getElem?_eq_some_iff.1 hj
      exact this.1
    have := h2 j (by simpa [h1] using hlt)
    simp at this
    rw [this]; exact hj
  · cases h
end
end Go.Proofs.YtfdijpacbhomjaaGreatDoor
namespace Go.Proofs.YtfdijpacbhomjaaGreatDoor.Sha
abbrev Bytes := List UInt8
def rotr (x n : Nat) : Nat := (x >>> n) ||| ((x <<< (32 - n)) % 4294967296)
def s0 (x : Nat) : Nat := (rotr x 7 ^^^ rotr x 18) ^^^ (x >>> 3)
def s1 (x : Nat) : Nat := (rotr x 17 ^^^ rotr x 19) ^^^ (x >>> 10)
def big0 (a : Nat) : Nat := (rotr a 2 ^^^ rotr a 13) ^^^ rotr a 22
def big1 (e : Nat) : Nat := (rotr e 6 ^^^ rotr e 11) ^^^ rotr e 25
def ch (e f g : Nat) : Nat := (e &&& f) ^^^ ((4294967295 - e) &&& g)
def maj (a b c : Nat) : Nat := ((a &&& b) ^^^ (a &&& c)) ^^^ (b &&& c)
structure W8 where
  a : Nat
  b : Nat
  c : Nat
  d : Nat
  e : Nat
  f : Nat
  g : Nat
  h : Nat
  deriving DecidableEq
def start : W8 := ⟨0x6a09e667, 0xbb67ae85, 0x3c6ef372, 0xa54ff53a, 0x510e527f, 0x9b05688c, 0x1f83d9ab, 0x5be0cd19⟩
def K : List Nat := [
  0x428a2f98, 0x71374491, 0xb5c0fbcf, 0xe9b5dba5, 0x3956c25b, 0x59f111f1, 0x923f82a4, 0xab1c5ed5, 0xd807aa98, 0x12835b01, 0x243185be, 0x550c7dc3, 0x72be5d74, 0x80deb1fe, 0x9bdc06a7, 0xc19bf174,
  0xe49b69c1, 0xefbe4786, 0x0fc19dc6, 0x240ca1cc, 0x2de92c6f, 0x4a7484aa, 0x5cb0a9dc, 0x76f988da, 0x983e5152, 0xa831c66d, 0xb00327c8, 0xbf597fc7, 0xc6e00bf3, 0xd5a79147, 0x06ca6351, 0x14292967,
  0x27b70a85, 0x2e1b2138, 0x4d2c6dfc, 0x53380d13, 0x650a7354, 0x766a0abb, 0x81c2c92e, 0x92722c85, 0xa2bfe8a1, 0xa81a664b, 0xc24b8b70, 0xc76c51a3, 0xd192e819, 0xd6990624, 0xf40e3585, 0x106aa070,
  0x19a4c116, 0x1e376c08, 0x2748774c, 0x34b0bcb5, 0x391c0cb3, 0x4ed8aa4a, 0x5b9cca4f, 0x682e6ff3, 0x748f82ee, 0x78a5636f, 0x84c87814, 0x8cc70208, 0x90befffa, 0xa4506ceb, 0xbef9a3f7, 0xc67178f2]
def turn (v : W8) (k w : Nat) : W8 :=
  let t1 := (v.h + big1 v.e + ch v.e v.f v.g + k + w) % 4294967296
  let t2 := (big0 v.a + maj v.a v.b v.c) % 4294967296
  ⟨(t1 + t2) % 4294967296, v.a, v.b, v.c, (v.d + t1) % 4294967296, v.e, v.f, v.g⟩
def beWord (b : Bytes) (i : Nat) : Nat := (b.getD (4 * i) 0).toNat * 16777216 + (b.getD (4 * i + 1) 0).toNat * 65536 + (b.getD (4 * i + 2) 0).toNat * 256 + (b.getD (4 * i + 3) 0).toNat
def nextW (w : List Nat) (t : Nat) : Nat := (w.getD (t - 16) 0 + s0 (w.getD (t - 15) 0) + w.getD (t - 7) 0 + s1 (w.getD (t - 2) 0)) % 4294967296
def sched (b : Bytes) : Nat → List Nat
  | 0 => []
  | t + 1 => let w := sched b t; w ++ [if t < 16 then beWord b t else nextW w t]
def rounds (h : W8) (w : List Nat) : Nat → W8
  | 0 => h
  | t + 1 => turn (rounds h w t) (K.getD t 0) (w.getD t 0)
def W8.plus (x y : W8) : W8 :=
  ⟨(x.a + y.a) % 4294967296, (x.b + y.b) % 4294967296, (x.c + y.c) % 4294967296, (x.d + y.d) % 4294967296, (x.e + y.e) % 4294967296, (x.f + y.f) % 4294967296, (x.g + y.g) % 4294967296, (x.h + y.h) % 4294967296⟩
def mix (h : W8) (b : Bytes) : W8 := h.plus (rounds h (sched b 64) 64)
def blocksN (h : W8) (l : Bytes) : Nat → W8
  | 0 => h
  | k + 1 => blocksN (mix h (l.take 64)) (l.drop 64) k
def blocks (h : W8) (l : Bytes) : W8 := blocksN h l (l.length / 64)
def rest (l : Bytes) : Bytes := l.drop (64 * (l.length / 64))
def zeros (n : Nat) : Nat := (56 + 64 - n % 64) % 64
def be8 (n : Nat) : Bytes := [UInt8.ofNat (n >>> 56), UInt8.ofNat (n >>> 48), UInt8.ofNat (n >>> 40), UInt8.ofNat (n >>> 32), UInt8.ofNat (n >>> 24), UInt8.ofNat (n >>> 16), UInt8.ofNat (n >>> 8), UInt8.ofNat n]
def tail (n : Nat) : Bytes := 0x80 :: (List.replicate (zeros (n + 1)) 0 ++ be8 (8 * n))
def be4 (n : Nat) : Bytes := [UInt8.ofNat (n >>> 24), UInt8.ofNat (n >>> 16), UInt8.ofNat (n >>> 8), UInt8.ofNat n]
def W8.bytes (v : W8) : Bytes := be4 v.a ++ be4 v.b ++ be4 v.c ++ be4 v.d ++ be4 v.e ++ be4 v.f ++ be4 v.g ++ be4 v.h
def sum (l : Bytes) : Bytes := (blocks start (l ++ tail l.length)).bytes
theorem sum_length (l : Bytes) : (sum l).length = 32 := by simp [sum, W8.bytes, be4]
theorem blocksN_append : ∀ (k : Nat) (h : W8) (l r : Bytes), 64 * k ≤ l.length → blocksN h (l ++ r) k = blocksN h l k
  | 0, _, _, _, _ => rfl
  | k + 1, h, l, r, hk => by
    simp only [blocksN]
    rw [List.take_append_of_le_length (by omega), List.drop_append_of_le_length (by omega)]
    exact blocksN_append k _ _ _ (by simp; omega)
theorem blocksN_add : ∀ (j k : Nat) (h : W8) (l : Bytes), blocksN h l (j + k) = blocksN (blocksN h l j) (l.drop (64 * j)) k
  | 0, k, h, l => by simp [blocksN]
  | j + 1, k, h, l => by
    rw [show j + 1 + k = (j + k) + 1 from by omega]
    simp only [blocksN]
    rw [blocksN_add j k, List.drop_drop]
    congr 2
    omega
theorem blocksN_succ (k : Nat) (h : W8) (l : Bytes) : blocksN h l (k + 1) = mix (blocksN h l k) ((l.drop (64 * k)).take 64) := by
  rw [blocksN_add]; rfl
theorem rest_length (l : Bytes) : (rest l).length = l.length % 64 := by simp [rest]; omega
theorem blocks_append (h : W8) (l r : Bytes) : blocks h (l ++ r) = blocks (blocks h l) (rest l ++ r) := by
  have e : (l ++ r).length / 64 = l.length / 64 + ((rest l ++ r).length) / 64 := by simp [rest_length]; omega
  unfold blocks
  rw [e, blocksN_add, blocksN_append _ _ _ _ (by omega)]
  congr 1
  rw [List.drop_append_of_le_length (by omega)]
  rfl
theorem rest_append (l r : Bytes) : rest (l ++ r) = rest (rest l ++ r) := by
  have e : (l ++ r).length / 64 = l.length / 64 + ((rest l ++ r).length) / 64 := by simp [rest_length]; omega
  show (l ++ r).drop (64 * ((l ++ r).length / 64)) = (rest l ++ r).drop (64 * ((rest l ++ r).length / 64))
  rw [e, Nat.mul_add, ← List.drop_drop, List.drop_append_of_le_length (by omega)]
  rfl
theorem sum_eq (l : Bytes) : sum l = (blocks (blocks start l) (rest l ++ tail l.length)).bytes := by rw [sum, blocks_append]
theorem sched_length (b : Bytes) : ∀ t, (sched b t).length = t
  | 0 => rfl
  | t + 1 => by simp [sched, sched_length b t]
theorem sched_take (b : Bytes) (t : Nat) : ∀ u, t ≤ u → (sched b u).take t = sched b t
  | 0, h => by
    have e : t = 0 := by omega
    rw [e]; rfl
  | u + 1, h => by
    by_cases e : t = u + 1
    · subst e; rw [List.take_of_length_le (by rw [sched_length]; omega)]
    · simp only [sched]
      rw [List.take_append_of_le_length (by rw [sched_length]; omega)]
      exact sched_take b t u (by omega)
theorem sched_getD (b : Bytes) (t u : Nat) (h : t < u) : (sched b u).getD t 0 = if t < 16 then beWord b t else nextW (sched b t) t := by
  have h1 := sched_take b (t + 1) u h
  have h2 : ((sched b u).take (t + 1)).getD t 0 = (sched b u).getD t 0 := by simp [List.getD, List.getElem?_take]
  rw [← h2, h1]
  simp [sched, List.getD, sched_length]
theorem or_lt {x y : Nat} (hx : x < 4294967296) (hy : y < 4294967296) : x ||| y < 4294967296 := Nat.or_lt_two_pow (n := 32) hx hy
theorem xor_lt {x y : Nat} (hx : x < 4294967296) (hy : y < 4294967296) : x ^^^ y < 4294967296 := Nat.xor_lt_two_pow (n := 32) hx hy
theorem and_lt {x y : Nat} (hx : x < 4294967296) : x &&& y < 4294967296 := Nat.lt_of_le_of_lt Nat.and_le_left hx
theorem shr_lt {x n : Nat} (hx : x < 4294967296) : x >>> n < 4294967296 := Nat.lt_of_le_of_lt (Nat.shiftRight_le _ _) hx
theorem rotr_lt {x n : Nat} (hx : x < 4294967296) : rotr x n < 4294967296 := or_lt (shr_lt hx) (Nat.mod_lt _ (by decide))
theorem byte_lt (b : UInt8) : b.toNat < 256 := b.toNat_lt
theorem beWord_lt (b : Bytes) (i : Nat) : beWord b i < 4294967296 := by
  unfold beWord
  have := byte_lt (b.getD (4 * i) 0); have := byte_lt (b.getD (4 * i + 1) 0); have := byte_lt (b.getD (4 * i + 2) 0); have := byte_lt (b.getD (4 * i + 3) 0)
  omega
theorem nextW_lt (w : List Nat) (t : Nat) : nextW w t < 4294967296 := Nat.mod_lt _ (by decide)
theorem sched_lt (b : Bytes) (t u : Nat) : (sched b u).getD t 0 < 4294967296 := by
  by_cases h : t < u
  · rw [sched_getD b t u h]; split
    · exact beWord_lt _ _
    · exact nextW_lt _ _
  · rw [List.getD_eq_getElem?_getD, List.getElem?_eq_none (by rw [sched_length]; omega)]; decide
theorem K_lt (t : Nat) : K.getD t 0 < 4294967296 := by
  by_cases h : t < 64
  · have : ∀ t : Fin 64, K.getD t.val 0 < 4294967296 := by decide
    exact this ⟨t, h⟩
  · rw [List.getD_eq_getElem?_getD, List.getElem?_eq_none (by simp [K]; omega)]; decide
structure W8.Fit (v : W8) : Prop where
  a : v.a < 4294967296
  b : v.b < 4294967296
  c : v.c < 4294967296
  d : v.d < 4294967296
  e : v.e < 4294967296
  f : v.f < 4294967296
  g : v.g < 4294967296
  h : v.h < 4294967296
theorem start_fit : start.Fit := by constructor <;> decide
theorem turn_fit {v : W8} (h : v.Fit) (k w : Nat) : (turn v k w).Fit := ⟨Nat.mod_lt _ (by decide), h.a, h.b, h.c, Nat.mod_lt _ (by decide), h.e, h.f, h.g⟩
theorem rounds_fit {h : W8} (hf : h.Fit) (w : List Nat) : ∀ t, (rounds h w t).Fit
  | 0 => hf
  | t + 1 => turn_fit (rounds_fit hf w t) _ _
theorem plus_fit (x y : W8) : (x.plus y).Fit := by constructor <;> exact Nat.mod_lt _ (by decide)
theorem mix_fit (h : W8) (b : Bytes) : (mix h b).Fit := plus_fit _ _
theorem blocksN_fit : ∀ (k : Nat) {h : W8} (l : Bytes), h.Fit → (blocksN h l k).Fit
  | 0, _, _, hf => hf
  | k + 1, _, _, _ => blocksN_fit k _ (mix_fit _ _)
theorem blocks_fit {h : W8} (l : Bytes) (hf : h.Fit) : (blocks h l).Fit := blocksN_fit _ _ hf
example : sum [] = [0xe3, 0xb0, 0xc4, 0x42, 0x98, 0xfc, 0x1c, 0x14, 0x9a, 0xfb, 0xf4, 0xc8, 0x99, 0x6f, 0xb9, 0x24, 0x27, 0xae, 0x41, 0xe4, 0x64, 0x9b, 0x93, 0x4c, 0xa4, 0x95, 0x99, 0x1b, 0x78, 0x52, 0xb8, 0x55] := by decide +kernel
end Go.Proofs.YtfdijpacbhomjaaGreatDoor.Sha
namespace Go.Proofs.YtfdijpacbhomjaaGreatDoor
open Go.RowKit
theorem rotr_bits (x n : Nat) (hx : x < 4294967296) (hn : n < 32) :
    bits BinOp.or IntKind.u32 ((x : Int) / 2 ^ n) ((x : Int) * 2 ^ (32 - n) % 4294967296) = (Sha.rotr x n : Nat) := by
  have e1 : ((x : Int) / 2 ^ n) = ((x >>> n : Nat) : Int) := by rw [Nat.shiftRight_eq_div_pow]; simp
  have e2 : ((x : Int) * 2 ^ (32 - n) % 4294967296) = (((x <<< (32 - n)) % 4294967296 : Nat) : Int) := by rw [Nat.shiftLeft_eq]; simp
  rw [e1, e2, u32_or_nat _ _ (Sha.shr_lt hx) (Nat.mod_lt _ (by decide))]
  rfl
set_option maxHeartbeats 400000 in
theorem turn_any (x n : Nat) (hx : x < 4294967296) (hn : n < 32) (w : World) :
    Calls Tryz.prog 285 #[.int .u32 x, .int .i64 n] w fun e w' => e = .returned (.int .u32 (Sha.rotr x n)) ∧ ∃ k, w' = w.drewN k := by
  have e := rotr_bits x n hx hn
  go_enter Tryz.func285, Tryz.ntmps285
  go_wp2
  go_quiet (fail)
  go_wp2
  go_ret
  exact ⟨rfl, _, rfl⟩
theorem turn_i (x : Nat) (b : Int) (hx : x < 4294967296) (h0 : 0 ≤ b) (hb : b < 32) (w : World) :
    Calls Tryz.prog 285 #[.int .u32 x, .int .i64 b] w fun e w' => e = .returned (.int .u32 (Sha.rotr x b.toNat)) ∧ ∃ k, w' = w.drewN k := by
  obtain ⟨n, rfl⟩ := Int.eq_ofNat_of_zero_le h0
  rw [Int.toNat_natCast]
  exact turn_any x n hx (by omega) w
def u32s (l : List Nat) : List Value := l.map fun (n : Nat) => Value.int .u32 n
def bytesS : Shape UInt8 := Shape.flat 1 (fun b => [.int .u8 b.toNat]) (fun _ => rfl)
theorem ElemsAt.byte {w : World} {a : Option Addr} {cap : Nat} {l : List UInt8} (h : ElemsAt bytesS w a cap l) {i : Nat} (hi : i < l.length) :
    ∃ b off, a = some ⟨b, off, none⟩ ∧ b < w.heap.size ∧ w.cell? ⟨b, off + i, none⟩ = some (.int .u8 (l.getD i 0).toNat) := by
  obtain ⟨b, off, rfl, hb, cs, rfl, hc⟩ := h.at hi
  refine ⟨b, off, rfl, hb, ?_⟩
  have := hc 0 _ rfl
  simpa [bytesS, Shape.flat, List.getD, List.getElem?_eq_getElem hi] using this
theorem fill_set (xs : List Value) (t : Nat) (z v : Value) (n : Nat) (hx : xs.length = t) (hn : t < n) :
    (xs ++ List.replicate (n - t) z).toArray.setIfInBounds t v = (xs ++ [v] ++ List.replicate (n - (t + 1)) z).toArray := by
  apply Array.ext'
  rw [Array.toList_setIfInBounds]
  subst hx
  obtain ⟨k, hk⟩ : ∃ k, n - xs.length = k + 1 := ⟨n - xs.length - 1, by omega⟩
  rw [hk, show n - (xs.length + 1) = k by omega, List.replicate_succ]
  simp [List.set_append]
theorem u32s_sched (b : Sha.Bytes) (t : Nat) : u32s (Sha.sched b t) ++ [Value.int .u32 ((if t < 16 then Sha.beWord b t else Sha.nextW (Sha.sched b t) t : Nat) : Int)] = u32s (Sha.sched b (t + 1)) := by
  simp [u32s, Sha.sched]
theorem or_add (a b n : Nat) (h : b < 2 ^ n) : (a * 2 ^ n) ||| b = a * 2 ^ n + b := by
  rw [← Nat.shiftLeft_eq, Nat.shiftLeft_add_eq_or_of_lt h]
theorem be_bits (a b c d : Nat) (ha : a < 256) (hb : b < 256) (hc : c < 256) (hd : d < 256) :
    bits BinOp.or IntKind.u32 (bits BinOp.or IntKind.u32 (bits BinOp.or IntKind.u32 ((a : Int) % 4294967296 * 16777216 % 4294967296) ((b : Int) % 4294967296 * 65536 % 4294967296)) ((c : Int) % 4294967296 * 256 % 4294967296)) ((d : Int) % 4294967296)
      = ((a * 16777216 + b * 65536 + c * 256 + d : Nat) : Int) := by
  have w : ∀ n : Int, 0 ≤ n → n < 4294967296 → n % 4294967296 = n := fun n h0 h1 => by omega
  rw [w a (by omega) (by omega), w b (by omega) (by omega), w c (by omega) (by omega), w d (by omega) (by omega), w _ (by omega) (by omega), w _ (by omega) (by omega), w _ (by omega) (by omega)]
  rw [show ((a : Int) * 16777216) = ((a * 16777216 : Nat) : Int) by simp, show ((b : Int) * 65536) = ((b * 65536 : Nat) : Int) by simp, show ((c : Int) * 256) = ((c * 256 : Nat) : Int) by simp]
  have o1 : (a * 16777216) ||| (b * 65536) = a * 16777216 + b * 65536 := or_add a (b * 65536) 24 (by omega)
  have o2 : (a * 16777216 + b * 65536) ||| (c * 256) = a * 16777216 + b * 65536 + c * 256 := by
    have := or_add (a * 256 + b) (c * 256) 16 (by omega)
    rw [show (a * 256 + b) * 2 ^ 16 = a * 16777216 + b * 65536 by omega] at this
    exact this
  have o3 : (a * 16777216 + b * 65536 + c * 256) ||| d = a * 16777216 + b * 65536 + c * 256 + d := by
    have := or_add (a * 65536 + b * 256 + c) d 8 (by omega)
    rw [show (a * 65536 + b * 256 + c) * 2 ^ 8 = a * 16777216 + b * 65536 + c * 256 by omega] at this
    exact this
  rw [u32_or_nat _ _ (by omega) (by omega), o1, u32_or_nat _ _ (by omega) (by omega), o2, u32_or_nat _ _ (by omega) (by omega), o3]
theorem xor3_bits (a b c : Nat) (ha : a < 4294967296) (hb : b < 4294967296) (hc : c < 4294967296) :
    bits BinOp.xor IntKind.u32 (bits BinOp.xor IntKind.u32 (a : Int) (b : Int)) (c : Int) = (((a ^^^ b) ^^^ c : Nat) : Int) := by
  rw [u32_xor_nat _ _ ha hb, u32_xor_nat _ _ (Sha.xor_lt ha hb) hc]
theorem next_bits (x16 x15 x7 x2 : Nat) (h15 : x15 < 4294967296) (h2 : x2 < 4294967296) :
    ((x16 : Int) + bits BinOp.xor IntKind.u32 (bits BinOp.xor IntKind.u32 ((Sha.rotr x15 7 : Nat) : Int) ((Sha.rotr x15 18 : Nat) : Int)) ((x15 : Int) / 8) + x7 +
      bits BinOp.xor IntKind.u32 (bits BinOp.xor IntKind.u32 ((Sha.rotr x2 17 : Nat) : Int) ((Sha.rotr x2 19 : Nat) : Int)) ((x2 : Int) / 1024)) % 4294967296 = (((x16 + Sha.s0 x15 + x7 + Sha.s1 x2) % 4294967296 : Nat) : Int) := by
  have e2 : ∀ y : Nat, (y : Int) / (8 : Int) = ((y >>> 3 : Nat) : Int) := fun y => by rw [Nat.shiftRight_eq_div_pow]; omega
  have e3 : ∀ y : Nat, (y : Int) / (1024 : Int) = ((y >>> 10 : Nat) : Int) := fun y => by rw [Nat.shiftRight_eq_div_pow]; omega
  rw [e2, e3]
  rw [xor3_bits _ _ _ (Sha.rotr_lt h15) (Sha.rotr_lt h15) (Sha.shr_lt h15), xor3_bits _ _ _ (Sha.rotr_lt h2) (Sha.rotr_lt h2) (Sha.shr_lt h2)]
  have e0 : (Sha.rotr x15 7 ^^^ Sha.rotr x15 18) ^^^ (x15 >>> 3) = Sha.s0 x15 := rfl
  have e1 : (Sha.rotr x2 17 ^^^ Sha.rotr x2 19) ^^^ (x2 >>> 10) = Sha.s1 x2 := rfl
  rw [e0, e1]
  omega
set_option maxRecDepth 100000 in
set_option maxHeartbeats 1000000 in
theorem words_any (b off cap : Nat) (l : List UInt8) (hl : l.length = 64) (w : World) (he : ElemsAt bytesS w (some ⟨b, off, none⟩) cap l) :
    Calls Tryz.prog 284 #[.slice (some ⟨b, off, none⟩) 64 cap] w fun e w' => e = .returned (.agg (u32s (Sha.sched l 64)).toArray) ∧ Below w.heap.size w w' := by
  go_enter Tryz.func284, Tryz.ntmps284
  go_wp2
  go_loopw [8] (fun i wr => ∃ t : Nat, t ≤ 16 ∧ i = .int .i64 t ∧ Below w.heap.size w wr ∧ wr.heap[w.heap.size + 1]? = some (.cells (u32s (Sha.sched l t) ++ List.replicate (64 - t) (Value.int .u32 0)).toArray 391 (0, 0)) ∧ wr.heap[w.heap.size]? = some (.cells (List.replicate 64 (Value.int .u32 0)).toArray 391 (0, 0))) (fun i _ => 16 - (intOf i).toNat)
  case atStart => exact ⟨0, by omega, rfl, ((Below.refl _ _).alloc (Nat.le_refl _) _).alloc (by simp) _, heap_alloc_at (by simp) _, heap_alloc_old (heap_alloc_new _ _)⟩
  case round =>
    obtain ⟨t, ht, rfl, hb, hg, hz⟩ := hrel
    have hz' := Lib.hid hz
    clear hz
    by_cases hlt : t < 16
    · have hg' := Lib.hid hg
      have hb' := Lib.hid hb
      have he' := Lib.hid he
      clear hg hb he
      go_wp2
      refine region_tail 35 (by kernel_rfl) (by kernel_rfl) fun w2 hs => ?_
      simp only [List.take_succ_cons, List.take_zero, List.drop_succ_cons, List.drop_zero]
      have hb2 := hb'.out.trans (hs.below _)
      obtain ⟨b', off', e0, hbb, c0⟩ := (he'.out.mono hb2).byte (i := 4 * t) (by omega)
      obtain ⟨b', off', e1, _, c1⟩ := (he'.out.mono hb2).byte (i := 4 * t + 1) (by omega)
      obtain ⟨b', off', e2, _, c2⟩ := (he'.out.mono hb2).byte (i := 4 * t + 2) (by omega)
      obtain ⟨b', off', e3, _, c3⟩ := (he'.out.mono hb2).byte (i := 4 * t + 3) (by omega)
      simp only [Option.some.injEq, Addr.mk.injEq, and_true] at e0 e1 e2 e3
      obtain ⟨rfl, rfl⟩ := e0
      obtain ⟨rfl, rfl⟩ := e1
      obtain ⟨rfl, rfl⟩ := e2
      obtain ⟨rfl, rfl⟩ := e3
      have hg2 := Lib.hid (hs.at hg'.out)
      have hz2 := Lib.hid (hs.at hz'.out)
      clear hs hb'
      have HB2 := Lib.hid hb2
      clear hb2
      obtain ⟨a0, e0⟩ : ∃ a : Nat, a = (l.getD (4 * t) 0).toNat := ⟨_, rfl⟩
      obtain ⟨a1, e1⟩ : ∃ a : Nat, a = (l.getD (4 * t + 1) 0).toNat := ⟨_, rfl⟩
      obtain ⟨a2, e2⟩ : ∃ a : Nat, a = (l.getD (4 * t + 2) 0).toNat := ⟨_, rfl⟩
      obtain ⟨a3, e3⟩ : ∃ a : Nat, a = (l.getD (4 * t + 3) 0).toNat := ⟨_, rfl⟩
      rw [← e0] at c0
      rw [← e1] at c1
      rw [← e2] at c2
      rw [← e3] at c3
      have hw : Hid (((Sha.beWord l t : Nat) : Int) = bits BinOp.or IntKind.u32 (bits BinOp.or IntKind.u32 (bits BinOp.or IntKind.u32 ((a0 : Int) % 4294967296 * 16777216 % 4294967296) ((a1 : Int) % 4294967296 * 65536 % 4294967296)) ((a2 : Int) % 4294967296 * 256 % 4294967296)) ((a3 : Int) % 4294967296)) := by
        rw [be_bits a0 a1 a2 a3 (by rw [e0]; exact UInt8.toNat_lt _) (by rw [e1]; exact UInt8.toNat_lt _) (by rw [e2]; exact UInt8.toNat_lt _) (by rw [e3]; exact UInt8.toNat_lt _), e0, e1, e2, e3]
        rfl
      clear e0 e1 e2 e3
      obtain ⟨x0, y0, z0⟩ := idx (4 * (t : Int)) (4 * t) (by omega) (by omega)
      obtain ⟨x1, y1, z1⟩ := idx (4 * (t : Int) + 1) (4 * t + 1) (by omega) (by omega)
      obtain ⟨x2, y2, z2⟩ := idx (4 * (t : Int) + 2) (4 * t + 2) (by omega) (by omega)
      obtain ⟨x3, y3, z3⟩ := idx (4 * (t : Int) + 3) (4 * t + 3) (by omega) (by omega)
      have l0 : 4 * (t : Int) < 64 := by omega
      have l1 : 4 * (t : Int) + 1 < 64 := by omega
      have l2 : 4 * (t : Int) + 2 < 64 := by omega
      have l3 : 4 * (t : Int) + 3 < 64 := by omega
      have l4 : (t : Int) < 64 := by omega
      have fz := frozen_of hg2.out t
      have cz : w2.cell? ⟨w.heap.size + 1, t, none⟩ = some (.int .u32 0) := by
        rw [cell_of hg2.out]
        have e : (u32s (Sha.sched l t)).length = t := by simp [u32s, Sha.sched_length]
        rw [List.getElem?_toArray, List.getElem?_append_right (by omega), e, List.getElem?_replicate, if_pos (by omega)]
      repeat still_step
      refine wpStill_nil ?_
      go_wp2
      go_roundw
      case rel =>
        refine ⟨t + 1, by omega, by go_num, HB2.out.setCell (by simp) _, ?_, by rw [heap_setCell_ne (by simp)]; exact hz2.out⟩
        rw [heap_setCell hg2.out, fill_set _ _ _ _ _ (by simp [u32s, Sha.sched_length]) (by omega), ← hw.out, ← u32s_sched, if_pos hlt]
      case measure => simp [intOf]; omega
    · have e16 : t = 16 := by omega
      rw [e16] at hg
      clear e16
      have hg' := Lib.hid hg
      have hb' := Lib.hid hb
      clear hg hb he
      go_wp2
      go_loopw [5] (fun i wr => ∃ t : Nat, 16 ≤ t ∧ t ≤ 64 ∧ i = .int .i64 t ∧ Below w.heap.size w wr ∧ wr.heap[w.heap.size + 1]? = some (.cells (u32s (Sha.sched l t) ++ List.replicate (64 - t) (Value.int .u32 0)).toArray 391 (0, 0)) ∧ wr.heap[w.heap.size]? = some (.cells (List.replicate 64 (Value.int .u32 0)).toArray 391 (0, 0))) (fun i _ => 64 - (intOf i).toNat)
      case atStart => exact ⟨16, by omega, by omega, rfl, hb'.out, hg'.out, hz'.out⟩
      case round =>
        clear hz'
        obtain ⟨t, ht1, ht2, rfl, hb, hg, hz⟩ := hrel
        have hz' := Lib.hid hz
        clear hg' hb' hz
        by_cases hlt : t < 64
        · have hgd : ∀ k, k < t → wr.cell? ⟨w.heap.size + 1, k, none⟩ = some (.int .u32 ((Sha.sched l t).getD k 0 : Nat)) := by
            intro k hk
            rw [cell_of hg]
            have e : (u32s (Sha.sched l t)).length = t := by simp [u32s, Sha.sched_length]
            rw [List.getElem?_toArray, List.getElem?_append_left (by omega)]
            have : k < (Sha.sched l t).length := by rw [Sha.sched_length]; omega
            simp [u32s, this]
          have c15 := hgd (t - 15) (by omega)
          have c2 := hgd (t - 2) (by omega)
          have c16 := hgd (t - 16) (by omega)
          have c7 := hgd (t - 7) (by omega)
          have f15 := Sha.sched_lt l (t - 15) t
          have f2 := Sha.sched_lt l (t - 2) t
          have f16 := Sha.sched_lt l (t - 16) t
          have f7 := Sha.sched_lt l (t - 7) t
          obtain ⟨X15, e15⟩ : ∃ a : Nat, a = (Sha.sched l t).getD (t - 15) 0 := ⟨_, rfl⟩
          obtain ⟨X2, e2⟩ : ∃ a : Nat, a = (Sha.sched l t).getD (t - 2) 0 := ⟨_, rfl⟩
          obtain ⟨X16, e16⟩ : ∃ a : Nat, a = (Sha.sched l t).getD (t - 16) 0 := ⟨_, rfl⟩
          obtain ⟨X7, e7⟩ : ∃ a : Nat, a = (Sha.sched l t).getD (t - 7) 0 := ⟨_, rfl⟩
          rw [← e15] at c15 f15
          rw [← e2] at c2 f2
          rw [← e16] at c16 f16
          rw [← e7] at c7 f7
          have hw : Hid (Sha.nextW (Sha.sched l t) t = (X16 + Sha.s0 X15 + X7 + Sha.s1 X2) % 4294967296) := by simp only [Hid, Sha.nextW, e15, e2, e16, e7]
          clear e15 e2 e16 e7 hgd
          have hg' := Lib.hid hg
          have hb' := Lib.hid hb
          clear hg hb
          obtain ⟨x15, y15, z15⟩ := idx ((t : Int) - 15) (t - 15) (by omega) (by omega)
          obtain ⟨x2, y2, z2⟩ := idx ((t : Int) - 2) (t - 2) (by omega) (by omega)
          obtain ⟨x16, y16, z16⟩ := idx ((t : Int) - 16) (t - 16) (by omega) (by omega)
          obtain ⟨x7, y7, z7⟩ := idx ((t : Int) - 7) (t - 7) (by omega) (by omega)
          have l15 : (t : Int) - 15 < 64 := by omega
          have l2 : (t : Int) - 2 < 64 := by omega
          have l16 : (t : Int) - 16 < 64 := by omega
          have l7 : (t : Int) - 7 < 64 := by omega
          have l0 : (t : Int) < 64 := by omega
          have m16 : (16 : Int) ≤ t := by omega
          have m7 : (7 : Int) ≤ t := by omega
          go_wp2
          go_quiet ((go_at_call 285; exact Calls.quiet_of (turn_i _ _ f15 (by decide) (by decide) _)))
          go_wp2
          go_quiet ((go_at_call 285; exact quiet_add (turn_i _ _ f2 (by decide) (by decide) _)))
          go_wp2
          refine region_tail 15 (by kernel_rfl) (by kernel_rfl) fun w2 hs => ?_
          simp only [List.take_succ_cons, List.take_zero, List.drop_succ_cons, List.drop_zero]
          have hs' := (Same.drewN wr _).trans ((Same.drewN _ _).trans hs)
          have hb2 := Lib.hid (hb'.out.trans (hs'.below _))
          have hg2 := Lib.hid (hs'.at hg'.out)
          have hz2 := Lib.hid (hs'.at hz'.out)
          replace c16 := hs'.cell c16
          replace c7 := hs'.cell c7
          have fz := frozen_of hg2.out t
          have cz : w2.cell? ⟨w.heap.size + 1, t, none⟩ = some (.int .u32 0) := by
            rw [cell_of hg2.out]
            have e : (u32s (Sha.sched l t)).length = t := by simp [u32s, Sha.sched_length]
            rw [List.getElem?_toArray, List.getElem?_append_right (by omega), e, List.getElem?_replicate, if_pos (by omega)]
          clear hs hs' c15 c2 hg' hb'
          repeat still_step
          refine wpStill_nil ?_
          go_wp2
          go_roundw
          case rel =>
            refine ⟨t + 1, by omega, by omega, by go_num, hb2.out.setCell (by simp) _, ?_, by rw [heap_setCell_ne (by simp)]; exact hz2.out⟩
            rw [heap_setCell hg2.out, fill_set _ _ _ _ _ (by simp [u32s, Sha.sched_length]) (by omega), ← u32s_sched, if_neg (by omega), hw.out, ← next_bits _ _ _ _ f15 f2]
          case measure => simp [intOf]; omega
        · have e64 : t = 64 := by omega
          rw [e64, Nat.sub_self, List.replicate_zero, List.append_nil] at hg
          have hsz : (u32s (Sha.sched l 64)).length = 64 := by simp [u32s, Sha.sched_length]
          have hone : ((u32s (Sha.sched l 64)).toArray.all (·.oneCell')) = true := by simp [u32s, Value.oneCell']
          generalize hC : (u32s (Sha.sched l 64)).toArray = C at *
          have hCs : C.size = 64 := by rw [← hC]; simpa using hsz
          have hC' := Lib.hid hC
          have hCs' := Lib.hid hCs
          have hone' := Lib.hid hone
          have hg' := Lib.hid hg
          have hb' := Lib.hid hb
          clear hg hb hC hCs hone e64 hsz
          go_wp2_with (refine wpList_load_row rfl 391 _ rfl (w.heap.size + 1) rfl 391 C (0, 0) _ hg'.out Tryz.underlying391 rfl (by rw [hCs'.out]; kernel_rfl) ?_; go_must (refine wpList_store_row rfl 391 _ _ rfl w.heap.size C rfl rfl 391 (List.replicate 64 (Value.int .u32 0)).toArray hz'.out ?s1 ?s2 hone'.out ?_))
          case s1 => rw [hCs'.out]; kernel_rfl
          case s2 => rw [hCs'.out]; rfl
          have hW := setRow_heap wr w.heap.size (List.replicate 64 (Value.int .u32 0)).toArray C 391 (0, 0) hz'.out
          have hB := below_setRow hb'.out (Nat.le_refl w.heap.size) C
          generalize wr.setRow w.heap.size C = wz at *
          refine bodyPost_ret (v := .agg C) ?r ?d ?fin
          case fin => exact ⟨by rw [hC'.out], hB⟩
          case d => rfl
          case r =>
            refine results_cell_row Tryz.results284 _ _ w.heap.size 391 C (0, 0) _ ?_ hW Tryz.underlying391 rfl ?_
            · rfl
            · rw [hCs'.out]; kernel_rfl
end Go.Proofs.YtfdijpacbhomjaaGreatDoor
namespace Go.Proofs.YtfdijpacbhomjaaGreatDoor
open Go.RowKit
def kc : List Value := [.int .u32 1116352408, .int .u32 1899447441, .int .u32 3049323471, .int .u32 3921009573, .int .u32 961987163, .int .u32 1508970993, .int .u32 2453635748, .int .u32 2870763221, .int .u32 3624381080, .int .u32 310598401, .int .u32 607225278, .int .u32 1426881987, .int .u32 1925078388, .int .u32 2162078206, .int .u32 2614888103, .int .u32 3248222580, .int .u32 3835390401, .int .u32 4022224774, .int .u32 264347078, .int .u32 604807628, .int .u32 770255983, .int .u32 1249150122, .int .u32 1555081692, .int .u32 1996064986, .int .u32 2554220882, .int .u32 2821834349, .int .u32 2952996808, .int .u32 3210313671, .int .u32 3336571891, .int .u32 3584528711, .int .u32 113926993, .int .u32 338241895, .int .u32 666307205, .int .u32 773529912, .int .u32 1294757372, .int .u32 1396182291, .int .u32 1695183700, .int .u32 1986661051, .int .u32 2177026350, .int .u32 2456956037, .int .u32 2730485921, .int .u32 2820302411, .int .u32 3259730800, .int .u32 3345764771, .int .u32 3516065817, .int .u32 3600352804, .int .u32 4094571909, .int .u32 275423344, .int .u32 430227734, .int .u32 506948616, .int .u32 659060556, .int .u32 883997877, .int .u32 958139571, .int .u32 1322822218, .int .u32 1537002063, .int .u32 1747873779, .int .u32 1955562222, .int .u32 2024104815, .int .u32 2227730452, .int .u32 2361852424, .int .u32 2428436474, .int .u32 2756734187, .int .u32 3204031479, .int .u32 3329325298]
theorem kc_eq : kc = Sha.K.map fun (n : Nat) => Value.int .u32 n := rfl
theorem kc_one : (kc.toArray.all (·.oneCell')) = true := by simp [kc_eq, Value.oneCell']
theorem kc_get (i : Nat) (hi : i < 64) : kc.toArray[i]? = some (.int .u32 (Sha.K.getD i 0 : Nat)) := by
  have : i < Sha.K.length := by simpa [Sha.K] using hi
  simp only [kc_eq, List.getElem?_toArray, List.getElem?_map, List.getD, List.getElem?_eq_getElem this]
  rfl
set_option maxRecDepth 100000 in
set_option maxHeartbeats 1000000 in
theorem round_any (i : Nat) (hi : i < 64) (w : World) :
    Calls Tryz.prog 286 #[.int .i64 i] w fun e w' => e = .returned (.int .u32 (Sha.K.getD i 0)) ∧ Below w.heap.size w w' := by
  have hk := kc_get i hi
  obtain ⟨k, hk2⟩ : ∃ k, k = Sha.K.getD i 0 := ⟨_, rfl⟩
  rw [← hk2] at hk ⊢
  have HK := Lib.hid hk
  have hi' : (i : Int) < 64 := by omega
  clear hk2 hk
  go_enter Tryz.func286, Tryz.ntmps286
  go_wp2_with (refine wpList_store_new rfl 391 _ _ rfl kc.toArray rfl rfl (by kernel_rfl) (by rfl) kc_one ?_; intro wz hW hB hS; have hB' := Lib.hid hB; have hc := cell_of hW i; rw [HK.out] at hc; clear hB hW hS)
  go_ret
  exact ⟨rfl, hB'.out⟩
end Go.Proofs.YtfdijpacbhomjaaGreatDoor
namespace Go.Proofs.YtfdijpacbhomjaaGreatDoor
open Go.RowKit
def w8c (v : Sha.W8) : Array Value := #[.int .u32 v.a, .int .u32 v.b, .int .u32 v.c, .int .u32 v.d, .int .u32 v.e, .int .u32 v.f, .int .u32 v.g, .int .u32 v.h]
theorem blend_set (A B : List Value) (t : Nat) (h : A.length = B.length) (v : Value) (hv : A[t]? = some v) : (A.take t ++ B.drop t).toArray.setIfInBounds t v = (A.take (t + 1) ++ B.drop (t + 1)).toArray := by
  obtain ⟨ht, hv⟩ := List.getElem?_eq_some_iff.1 hv
  apply Array.ext'
  rw [Array.toList_setIfInBounds]
  rw [List.take_succ_eq_append_getElem ht, hv, List.drop_eq_getElem_cons (show t < B.length by omega)]
  have e : (A.take t).length = t := by simp; omega
  show List.set (A.take t ++ B[t] :: B.drop (t + 1)) t v = A.take t ++ [v] ++ B.drop (t + 1)
  simp only [List.set_append, e, Nat.lt_irrefl, ↓reduceIte, Nat.sub_self, List.set_cons_zero, List.append_assoc, List.singleton_append]
theorem blend_get (A B : List Value) (t : Nat) (h : A.length = B.length) (ht : t < A.length) : (A.take t ++ B.drop t).toArray[t]? = B[t]? := by
  have e : (A.take t).length = t := by simp; omega
  rw [List.getElem?_toArray, List.getElem?_append_right (by omega), e, Nat.sub_self, List.getElem?_drop]
  rfl
def w8l (v : Sha.W8) : List Value := [.int .u32 v.a, .int .u32 v.b, .int .u32 v.c, .int .u32 v.d, .int .u32 v.e, .int .u32 v.f, .int .u32 v.g, .int .u32 v.h]
theorem w8l_plus (x y : Sha.W8) (t : Nat) (ht : t < 8) : ∃ a b : Nat, (w8l x)[t]? = some (.int .u32 a) ∧ (w8l y)[t]? = some (.int .u32 b) ∧ (w8l (x.plus y))[t]? = some (.int .u32 (((a : Int) + b) % 4294967296)) := by
  have : t = 0 ∨ t = 1 ∨ t = 2 ∨ t = 3 ∨ t = 4 ∨ t = 5 ∨ t = 6 ∨ t = 7 := by omega
  rcases this with rfl | rfl | rfl | rfl | rfl | rfl | rfl | rfl <;> exact ⟨_, _, rfl, rfl, by simp [w8l, Sha.W8.plus]⟩
theorem run_index_agg {P : Program} {k : IntKind} (t e : TypeId) (n : Nat) (he : P.underlying e = some (.int k)) (hu : P.underlying t = some (.array n e)) (hs : (P.info? e).map (·.size) = some 1) (C : Array Value) (hn : C.size = n) (i : Nat) (v : Value) (hv : C[i]? = some v) (w : World) :
    (Instr.index t (.agg C) (.int .i64 i)).run P w = .ok v w := by
  have hi : i < C.size := (Array.getElem?_eq_some_iff.1 hv).1
  obtain ⟨inf, hinf, hsz⟩ := Option.map_eq_some_iff.1 hs
  have h1 : (sizeOf e).run P w = .ok 1 w := by simp [sizeOf, typeInfo, hinf, hsz]
  have h2 : (isAgg e).run P w = .ok false w := by
    unfold isAgg
    rw [Sem.run_bind, run_underlying he w]
    simp
  simp [Instr.index, asIntOf, run_underlying hu, h1, show i < n by omega, part, h2, hv]
theorem turn_pure (x : Nat) (b : Int) (hx : x < 4294967296) (h0 : 0 ≤ b) (hb : b < 32) (w : World) :
    Calls Tryz.prog 285 #[.int .u32 x, .int .i64 b] w fun e w' => e = .returned (.int .u32 (Sha.rotr x b.toNat)) ∧ Below w.heap.size w w' :=
  (turn_i x b hx h0 hb w).mono fun _ _ ⟨he, _, hk⟩ => ⟨he, by rw [hk]; exact (Same.drewN w _).below _⟩
theorem ch_bits (e f g : Nat) (he : e < 4294967296) (hf : f < 4294967296) (hg : g < 4294967296) :
    bits BinOp.xor IntKind.u32 (bits BinOp.and IntKind.u32 (e : Int) (f : Int)) (bits BinOp.and IntKind.u32 (bits BinOp.xor IntKind.u32 (if IntKind.u32.signed = true then -1 else IntKind.u32.max) (e : Int)) (g : Int)) = ((Sha.ch e f g : Nat) : Int) := by
  have h0 : bits BinOp.xor IntKind.u32 (if IntKind.u32.signed = true then -1 else IntKind.u32.max) (e : Int) = ((4294967295 - e : Nat) : Int) := by
    have e1 : (if IntKind.u32.signed = true then -1 else IntKind.u32.max) = ((4294967295 : Nat) : Int) := by decide
    rw [e1, u32_xor_nat _ _ (by decide) he]
    congr 1
    have e2 := BitVec.toNat_not (x := BitVec.ofNat 32 e)
    have e3 : (BitVec.allOnes 32 ^^^ BitVec.ofNat 32 e).toNat = 4294967295 ^^^ e := by
      rw [BitVec.toNat_xor]; simp [BitVec.toNat_allOnes, Nat.mod_eq_of_lt he]
    have e4 : BitVec.allOnes 32 ^^^ BitVec.ofNat 32 e = ~~~ (BitVec.ofNat 32 e) := BitVec.allOnes_xor
    rw [← e3, e4, e2]
    simp [Nat.mod_eq_of_lt he]
  rw [h0, u32_and_nat _ _ he hf, u32_and_nat _ _ (by omega) hg, u32_xor_nat _ _ (Sha.and_lt he) (Sha.and_lt (by omega))]
  rfl
theorem one_bits (e f g h k w : Nat) (he : e < 4294967296) (hf : f < 4294967296) (hg : g < 4294967296) :
    IntKind.u32.wrap (IntKind.u32.wrap (IntKind.u32.wrap (IntKind.u32.wrap ((h : Int) +
      bits BinOp.xor IntKind.u32 (bits BinOp.xor IntKind.u32 ((Sha.rotr e 6 : Nat) : Int) ((Sha.rotr e 11 : Nat) : Int)) ((Sha.rotr e 25 : Nat) : Int)) +
      bits BinOp.xor IntKind.u32 (bits BinOp.and IntKind.u32 (e : Int) (f : Int)) (bits BinOp.and IntKind.u32 (bits BinOp.xor IntKind.u32 (if IntKind.u32.signed = true then -1 else IntKind.u32.max) (e : Int)) (g : Int))) + k) + w)
      = (((h + Sha.big1 e + Sha.ch e f g + k + w) % 4294967296 : Nat) : Int) := by
  rw [ch_bits e f g he hf hg, xor3_bits _ _ _ (Sha.rotr_lt he) (Sha.rotr_lt he) (Sha.rotr_lt he)]
  have e1 : (Sha.rotr e 6 ^^^ Sha.rotr e 11) ^^^ Sha.rotr e 25 = Sha.big1 e := rfl
  rw [e1]
  simp only [IntKind.wrap_u32]
  omega
theorem two_bits (a b c : Nat) (ha : a < 4294967296) (hb : b < 4294967296) (hc : c < 4294967296) :
    IntKind.u32.wrap (bits BinOp.xor IntKind.u32 (bits BinOp.xor IntKind.u32 ((Sha.rotr a 2 : Nat) : Int) ((Sha.rotr a 13 : Nat) : Int)) ((Sha.rotr a 22 : Nat) : Int) +
      bits BinOp.xor IntKind.u32 (bits BinOp.xor IntKind.u32 (bits BinOp.and IntKind.u32 (a : Int) (b : Int)) (bits BinOp.and IntKind.u32 (a : Int) (c : Int))) (bits BinOp.and IntKind.u32 (b : Int) (c : Int)))
      = (((Sha.big0 a + Sha.maj a b c) % 4294967296 : Nat) : Int) := by
  rw [u32_and_nat _ _ ha hb, u32_and_nat _ _ ha hc, u32_and_nat _ _ hb hc, xor3_bits _ _ _ (Sha.and_lt ha) (Sha.and_lt ha) (Sha.and_lt hb), xor3_bits _ _ _ (Sha.rotr_lt ha) (Sha.rotr_lt ha) (Sha.rotr_lt ha)]
  have e1 : (Sha.rotr a 2 ^^^ Sha.rotr a 13) ^^^ Sha.rotr a 22 = Sha.big0 a := rfl
  have e2 : ((a &&& b) ^^^ (a &&& c)) ^^^ (b &&& c) = Sha.maj a b c := rfl
  rw [e1, e2]
  simp only [IntKind.wrap_u32]
  omega
set_option maxRecDepth 100000 in
set_option maxHeartbeats 2000000 in
theorem mix_any (st : Sha.W8) (hf : st.Fit) (b off cap : Nat) (l : List UInt8) (hl : l.length = 64) (w : World) (he : ElemsAt bytesS w (some ⟨b, off, none⟩) cap l) :
    Calls Tryz.prog 239 #[.agg (w8c st), .slice (some ⟨b, off, none⟩) 64 cap] w fun e w' => e = .returned (.agg (w8c (Sha.mix st l))) ∧ Below w.heap.size w w' := by
  unfold w8c
  go_enter Tryz.func239, Tryz.ntmps239
  go_wp2_with fail
  refine (words_any b off cap l hl _ (he.mono (by repeat (first | exact Below.refl _ _ | refine Below.alloc ?_ (by simp <;> omega) _)))).mono ?_
  rintro e w1 ⟨rfl, hb1⟩
  have hB0 : Below w.heap.size w w1 := Below.trans (by repeat (first | exact Below.refl _ _ | refine Below.alloc ?_ (by simp <;> omega) _)) (hb1.mono (by simp; omega))
  have g0 : w1.heap[w.heap.size]? = some (.cells (w8c st) 349 (0, 0)) := heap_below (heap_alloc_old (heap_alloc_old (heap_alloc_new _ _))) hb1
  have g1 : w1.heap[w.heap.size + 1]? = some (.cells (w8c ⟨0, 0, 0, 0, 0, 0, 0, 0⟩) 349 (0, 0)) := heap_below (heap_alloc_old (heap_alloc_at (by simp) _)) hb1
  have g2 : w1.heap[w.heap.size + 2]? = some (.cells (w8c st) 349 (0, 0)) := heap_below (heap_alloc_at (by simp) _) hb1
  have G0 := Lib.hid g0
  have G1 := Lib.hid g1
  have G2 := Lib.hid g2
  have HB0 := Lib.hid hB0
  clear g0 g1 g2 hb1 hB0 he
  generalize hC : (u32s (Sha.sched l 64)).toArray = C
  have hix : ∀ t, t < 64 → C[t]? = some (Value.int .u32 ((Sha.sched l 64).getD t 0 : Nat)) := by
    intro t ht
    rw [← hC]
    have : t < (Sha.sched l 64).length := by rw [Sha.sched_length]; omega
    simp [u32s, this]
  have hCn : C.size = 64 := by rw [← hC]; simp [u32s, Sha.sched_length]
  have HCn := Lib.hid hCn
  clear hC hCn
  go_wp2
  go_loopw [16] (fun i wr => ∃ t : Nat, t ≤ 64 ∧ i = .int .i64 t ∧ Below w.heap.size w wr ∧ wr.heap[w.heap.size]? = some (.cells (w8c st) 349 (0, 0)) ∧ wr.heap[w.heap.size + 1]? = some (.cells (w8c ⟨0, 0, 0, 0, 0, 0, 0, 0⟩) 349 (0, 0)) ∧
      wr.heap[w.heap.size + 2]? = some (.cells (w8c (Sha.rounds st (Sha.sched l 64) t)) 349 (0, 0))) (fun i _ => 64 - (intOf i).toNat)
  case atStart => exact ⟨0, by omega, rfl, HB0.out, G0.out, G1.out, G2.out⟩
  case round =>
    clear G0 G1 G2 HB0
    obtain ⟨t, ht, rfl, hB, g0, g1, g2⟩ := hrel
    by_cases hlt : t < 64
    · have hix' := run_index_agg (P := Tryz.prog) 391 252 64 Tryz.underlying252 Tryz.underlying391 (by kernel_rfl) C HCn.out t _ (hix t hlt)
      have hvf := Sha.rounds_fit hf (Sha.sched l 64) t
      have hW := Sha.sched_lt l t 64
      have hstep : Hid (Sha.rounds st (Sha.sched l 64) (t + 1) = Sha.turn (Sha.rounds st (Sha.sched l 64) t) (Sha.K.getD t 0) ((Sha.sched l 64).getD t 0)) := rfl
      obtain ⟨v, hv⟩ : ∃ v, v = Sha.rounds st (Sha.sched l 64) t := ⟨_, rfl⟩
      obtain ⟨W, hWe⟩ : ∃ W, W = (Sha.sched l 64).getD t 0 := ⟨_, rfl⟩
      obtain ⟨Kt, hKe⟩ : ∃ Kt, Kt = Sha.K.getD t 0 := ⟨_, rfl⟩
      have hKf : Kt < 4294967296 := by rw [hKe]; exact Sha.K_lt t
      have hround := round_any t hlt
      rw [← hKe] at hround hstep
      rw [← hWe] at hix' hW hstep
      rw [← hv] at g2 hvf hstep
      obtain ⟨va, vb, vc, vd, ve, vf, vg, vh⟩ := v
      obtain ⟨fa, fb, fc, fd, fe, ff, fg, fh⟩ := hvf
      simp only at fa fb fc fd fe ff fg fh
      have HR := Lib.hid hround
      clear hv hWe hKe hix hround
      have G0 := Lib.hid g0
      have G1 := Lib.hid g1
      have c0 := cell_of g2 0
      have c1 := cell_of g2 1
      have c2 := cell_of g2 2
      have c4 := cell_of g2 4
      have c5 := cell_of g2 5
      have c6 := cell_of g2 6
      have c7 := cell_of g2 7
      simp [w8c] at c0 c1 c2 c4 c5 c6 c7
      have G2 := Lib.hid g2
      have HB := Lib.hid hB
      clear g0 g1 g2 hB
      go_wp2
      go_quiet (fail)
      go_wp2
      have lt2 := lt_of_heap G2.out
      have S1 := Same.drewN wr nq
      generalize wr.drewN nq = w2 at *
      refine region_pure (by kernel_rfl) (by kernel_rfl) fun I ne f hfb hback => ?_
      have d5 : ∀ i, (f i).cell? ⟨w.heap.size + 2, 5, none⟩ = some (.int .u32 vf) := fun i => by rw [(hfb i).cell (by rw [S1.size]; exact lt2)]; exact S1.cell c5
      have d6 : ∀ i, (f i).cell? ⟨w.heap.size + 2, 6, none⟩ = some (.int .u32 vg) := fun i => by rw [(hfb i).cell (by rw [S1.size]; exact lt2)]; exact S1.cell c6
      have d7 : ∀ i, (f i).cell? ⟨w.heap.size + 2, 7, none⟩ = some (.int .u32 vh) := fun i => by rw [(hfb i).cell (by rw [S1.size]; exact lt2)]; exact S1.cell c7
      have hfb' := Lib.hid hfb
      clear hfb c0 c1 c2 c4 c5 c6 c7
      repeat (quiet_step ((first | (go_at_call 285; exact pure_of hfb'.out hback (turn_pure _ _ fe (by decide) (by decide) _)) | (go_at_call 286; exact pure_of hfb'.out hback (HR.out _)))))
      refine wpQuiet_nil ?_
      intro i
      have hfi := hfb'.out i
      generalize f i = w3 at *
      rw [one_bits ve vf vg vh Kt W fe ff fg]
      obtain ⟨t1, ht1⟩ : ∃ t1, t1 = (vh + Sha.big1 ve + Sha.ch ve vf vg + Kt + W) % 4294967296 := ⟨_, rfl⟩
      rw [← ht1]
      have HT1 := Lib.hid ht1
      clear ht1
      have H0 := Lib.hid (heap_below (S1.at G0.out) hfi)
      have H1 := Lib.hid (heap_below (S1.at G1.out) hfi)
      have H2 := Lib.hid (heap_below (S1.at G2.out) hfi)
      have HB3 := Lib.hid (HB.out.trans ((S1.below _).trans (hfi.mono (by rw [S1.size]; exact HB.out.size))))
      clear G0 G1 G2 HB lt2 S1 hfi hback hfb' HR d5 d6 d7
      go_wp2
      refine region_pure (by kernel_rfl) (by kernel_rfl) fun I ne f hfb hback => ?_
      have d1 : ∀ i, (f i).cell? ⟨w.heap.size + 2, 1, none⟩ = some (.int .u32 vb) := fun i => by rw [(hfb i).cell (lt_of_heap H2.out), cell_of H2.out]; rfl
      have d2 : ∀ i, (f i).cell? ⟨w.heap.size + 2, 2, none⟩ = some (.int .u32 vc) := fun i => by rw [(hfb i).cell (lt_of_heap H2.out), cell_of H2.out]; rfl
      have hfb' := Lib.hid hfb
      clear hfb
      repeat (quiet_step ((go_at_call 285; exact pure_of hfb'.out hback (turn_pure _ _ fa (by decide) (by decide) _))))
      refine wpQuiet_nil ?_
      intro i
      have hfi := hfb'.out i
      generalize f i = w4 at *
      rw [two_bits va vb vc fa fb fc]
      obtain ⟨t2, ht2⟩ : ∃ t2, t2 = (Sha.big0 va + Sha.maj va vb vc) % 4294967296 := ⟨_, rfl⟩
      rw [← ht2]
      have HT2 := Lib.hid ht2
      clear ht2
      have G0 := Lib.hid (heap_below H0.out hfi)
      have G1 := Lib.hid (heap_below H1.out hfi)
      have G2 := Lib.hid (heap_below H2.out hfi)
      have HB := Lib.hid (HB3.out.trans (hfi.mono HB3.out.size))
      clear H0 H1 H2 HB3 hfi hback hfb' d1 d2
      go_wp2
      refine region_tail 2 (by kernel_rfl) (by kernel_rfl) fun w5 hs => ?_
      simp only [List.take_succ_cons, List.take_zero, List.drop_succ_cons, List.drop_zero]
      repeat still_step
      refine wpStill_nil ?_
      have H0 := Lib.hid (hs.at G0.out)
      have H1 := Lib.hid (hs.at G1.out)
      have H2 := hs.at G2.out
      have HB3 := Lib.hid (HB.out.trans (hs.below _))
      clear G0 G1 G2 HB hs
      refine wpList_copy_splice rfl _ _ 395 395 rfl 252 Tryz.underlying395 (by kernel_rfl) (some ⟨w.heap.size + 2, 1, none⟩) (some ⟨w.heap.size + 2, 0, none⟩) 7 7 7 8 rfl rfl
        (w.heap.size + 2) 1 [.int .u32 va, .int .u32 vb, .int .u32 vc, .int .u32 vd, .int .u32 ve, .int .u32 vf, .int .u32 vg, .int .u32 vh] 349 H2 [.int .u32 va, .int .u32 vb, .int .u32 vc, .int .u32 vd, .int .u32 ve, .int .u32 vf, .int .u32 vg] rfl ?k1 (by simp) ?k2 (w.heap.size + 2) w5 (Below.refl _ _) (Nat.le_refl _) ?_
      case k1 =>
        intro _
        refine ⟨rfl, _, rfl, fun j u hj => ?_⟩
        rw [cells_add H2]
        have e7 : [Value.int .u32 va, .int .u32 vb, .int .u32 vc, .int .u32 vd, .int .u32 ve, .int .u32 vf, .int .u32 vg] = ([Value.int .u32 va, .int .u32 vb, .int .u32 vc, .int .u32 vd, .int .u32 ve, .int .u32 vf, .int .u32 vg, .int .u32 vh]).take 7 := rfl
        rw [e7, List.getElem?_take] at hj
        split at hj
        · show (#[_, _, _, _, _, _, _, _] : Array Value)[j]? = _
          simpa using hj
        · cases hj
      case k2 => simp [Value.oneCell']
      intro w6 hg6 hb6
      have g6 : w6.heap[w.heap.size + 2]? = some (.cells #[.int .u32 va, .int .u32 va, .int .u32 vb, .int .u32 vc, .int .u32 vd, .int .u32 ve, .int .u32 vf, .int .u32 vg] 349 (0, 0)) := hg6.out
      have G0 := Lib.hid (show w6.heap[w.heap.size]? = some (.cells (w8c st) 349 (0, 0)) by rw [hb6.block _ (by omega)]; exact H0.out)
      have G1 := Lib.hid (show w6.heap[w.heap.size + 1]? = some (.cells (w8c ⟨0, 0, 0, 0, 0, 0, 0, 0⟩) 349 (0, 0)) by rw [hb6.block _ (by omega)]; exact H1.out)
      have HB := Lib.hid (HB3.out.trans (hb6.mono (by omega)))
      clear H0 H1 H2 HB3 hg6 hb6
      have c4 := cell_of g6 4
      have z4 := frozen_of g6 4
      have c0 := cell_of g6 0
      have z0 := frozen_of g6 0
      simp at c4 c0
      have G2 := Lib.hid g6
      clear g6
      go_wp2
      go_roundw
      case rel =>
        refine ⟨t + 1, by omega, by go_num, (HB.out.setCell (by simp <;> omega) _).setCell (by simp <;> omega) _, ?_, ?_, ?_⟩
        · rw [heap_setCell_ne (by simp <;> omega), heap_setCell_ne (by simp <;> omega)]; exact G0.out
        · rw [heap_setCell_ne (by simp <;> omega), heap_setCell_ne (by simp <;> omega)]; exact G1.out
        · rw [heap_setCell (heap_setCell G2.out 4 _) 0 _, hstep.out]
          simp only [w8c, Sha.turn, ← HT1.out, ← HT2.out]
          simp [HT1.out, HT2.out]
      case measure => simp [intOf]; omega
    · have e64 : t = 64 := by omega
      have hmix : Hid (Sha.mix st l = st.plus (Sha.rounds st (Sha.sched l 64) t)) := by rw [e64]; rfl
      have G0 := Lib.hid g0
      have G1 := Lib.hid g1
      have G2 := Lib.hid g2
      have HB := Lib.hid hB
      generalize Sha.rounds st (Sha.sched l 64) t = v at *
      clear g0 g1 g2 hB hix e64
      go_wp2
      go_loopw [88] (fun i wr => ∃ u : Nat, u ≤ 8 ∧ i = .int .i64 u ∧ Below w.heap.size w wr ∧ wr.heap[w.heap.size]? = some (.cells ((w8l (st.plus v)).take u ++ (w8l st).drop u).toArray 349 (0, 0)) ∧
        wr.heap[w.heap.size + 1]? = some (.cells (w8c ⟨0, 0, 0, 0, 0, 0, 0, 0⟩) 349 (0, 0)) ∧ wr.heap[w.heap.size + 2]? = some (.cells (w8c v) 349 (0, 0))) (fun i _ => 8 - (intOf i).toNat)
      case atStart => exact ⟨0, by omega, rfl, HB.out, G0.out, G1.out, G2.out⟩
      case round =>
        clear G0 G1 G2 HB
        obtain ⟨u, hu, rfl, hB, g0, g1, g2⟩ := hrel
        have G0 := Lib.hid g0
        have G1 := Lib.hid g1
        have G2 := Lib.hid g2
        have HB := Lib.hid hB
        clear g0 g1 g2 hB
        by_cases hlu : u < 8
        · obtain ⟨xa, xb, e1, e2, e3⟩ := w8l_plus st v u hlu
          have E1 := Lib.hid e1
          have E2 := Lib.hid e2
          have E3 := Lib.hid e3
          clear e1 e2 e3
          have l8 : (u : Int) < 8 := by omega
          go_wp2
          refine region_tail 8 (by kernel_rfl) (by kernel_rfl) fun w2 hs => ?_
          simp only [List.take_succ_cons, List.take_zero, List.drop_succ_cons, List.drop_zero]
          have H0 := Lib.hid (hs.at G0.out)
          have H1 := Lib.hid (hs.at G1.out)
          have H2 := Lib.hid (hs.at G2.out)
          have HB2 := Lib.hid (HB.out.trans (hs.below _))
          have c0 : w2.cell? ⟨w.heap.size, u, none⟩ = some (.int .u32 xa) := by rw [cell_of H0.out, blend_get (w8l (st.plus v)) (w8l st) u rfl (by simpa [w8l] using hlu)]; exact E1.out
          have c2 : w2.cell? ⟨w.heap.size + 2, u, none⟩ = some (.int .u32 xb) := by rw [cell_of H2.out, ← E2.out]; show (w8l v).toArray[u]? = _; rw [List.getElem?_toArray]
          have z0 := frozen_of H0.out u
          clear hs G0 G1 G2 HB
          repeat still_step
          refine wpStill_nil ?_
          go_wp2
          go_roundw
          case rel =>
            refine ⟨u + 1, by omega, by go_num, HB2.out.setCell (by simp) _, ?_, ?_, ?_⟩
            · rw [heap_setCell H0.out, blend_set (w8l (st.plus v)) (w8l st) u rfl _ E3.out]
            · rw [heap_setCell_ne (by simp)]; exact H1.out
            · rw [heap_setCell_ne (by simp)]; exact H2.out
          case measure => simp [intOf]; omega
        · have e8 : u = 8 := by omega
          have g0 := G0.out
          rw [e8] at g0
          have g0' : Hid (_ = some (Obj.cells (w8c (st.plus v)) 349 (0, 0))) := g0
          clear g0 G0 e8
          go_wp2_with (refine wpList_load_row rfl 349 _ rfl w.heap.size rfl 349 (w8c (st.plus v)) (0, 0) _ g0'.out Tryz.underlying349 rfl (by kernel_rfl) ?_; go_must (refine wpList_store_row rfl 349 _ _ rfl (w.heap.size + 1) (w8c (st.plus v)) rfl rfl 349 (w8c ⟨0, 0, 0, 0, 0, 0, 0, 0⟩) G1.out ?s1 ?s2 ?s3 ?_))
          case s1 => kernel_rfl
          case s2 => rfl
          case s3 => simp [w8c, Value.oneCell']
          have hW := setRow_heap _ (w.heap.size + 1) _ (w8c (st.plus v)) 349 (0, 0) G1.out
          have hBB := below_setRow HB.out (Nat.le_succ w.heap.size) (w8c (st.plus v))
          generalize World.setRow _ (w.heap.size + 1) (w8c (st.plus v)) = wz at *
          refine bodyPost_ret (v := .agg (w8c (st.plus v))) ?r ?d ?fin
          case fin => exact ⟨by rw [hmix.out]; rfl, hBB⟩
          case d => rfl
          case r =>
            refine results_cell_row Tryz.results239 _ _ (w.heap.size + 1) 349 (w8c (st.plus v)) (0, 0) _ ?_ hW Tryz.underlying349 rfl ?_
            · rfl
            · kernel_rfl
end Go.Proofs.YtfdijpacbhomjaaGreatDoor
namespace Go.Proofs.YtfdijpacbhomjaaGreatDoor
open Go.RowKit
section
variable {P : Program} {md : Region.Mode} {ops : Array Oper} {C : World → Prop}
def wpAnyLQ (P : Program) (md : Region.Mode) (ops : Array Oper) (C : World → Prop) (n : Nat) (L : Array Bool → Act → Prop) : Nat → Array Bool → Act → Prop
  | 0, listed, a => L listed a
  | f + 1, listed, a =>
    Region.ready md ops listed ≠ [] ∧ ∀ i ∈ Region.ready md ops listed, i < n ∧ qOp P ops C i (wpAnyLQ P md ops C n L f (listed.setIfInBounds i true)) a
theorem wpAny_of_headQ {n g : Nat} {L : Array Bool → Act → Prop} {Q' : Exit → Act → World → Prop} (hL : ∀ listed a w, C w → L listed a → wpAny P md ops Q' g listed a w) :
    ∀ (f : Nat) (listed : Array Bool) (a : Act) (w : World), C w → wpAnyLQ P md ops C n L f listed a → wpAny P md ops Q' (f + g) listed a w
  | 0, listed, a, w, hw, h => by rw [Nat.zero_add]; exact hL _ _ _ hw h
  | f + 1, listed, a, w, hw, h => by
    rw [show f + 1 + g = (f + g) + 1 by omega]
    exact ⟨fun h0 => absurd h0 h.1, fun i hi => wpOp_of_qOp hw (fun a' w' hw' h' => wpAny_of_headQ hL f _ a' w' hw' h') (h.2 i hi).2⟩
theorem wpAnyLQ_first {n i : Nat} {oi : Oper} {v : Value} {L : Array Bool → Act → Prop} (hi : ops[i]? = some oi) (hsel : ∀ (j : Nat) (o : Oper) cs b, ops[j]? = some o → o.op ≠ .select cs b)
    (hs : Region.sinkB md ops n = true) (hc : Region.chainB md ops n = true) (hn : n < ops.size) (hin : i < n)
    (hdone : ∀ listed a, L listed a → ∀ j ∈ Region.ready md ops listed, n ≤ j) :
    ∀ (f : Nat) (listed : Array Bool) (a : Act), HeadInv md ops n listed →
      (∀ j oj, ops[j]? = some oj → j ≠ i → listed.getD j true = false → (∀ e ∈ oj.after, Region.binds md e = true → e.on ≠ i) → oi.apart ops oj = true) →
      i ∈ Region.ready md ops listed → YieldsIn P ops C oi v a →
      wpAnyLQ P md ops C n L f (listed.setIfInBounds i true) (a.put oi.dst v) → wpAnyLQ P md ops C n L (f + 1) listed a := by
  intro f
  induction f with
  | zero =>
    intro listed a inv _ hr hy H
    have hun := (mem_ready.1 hr).1
    refine ⟨fun h => (by rw [h] at hr; cases hr), fun j hj => ?_⟩
    have hjn : j < n := by
      rcases Nat.lt_or_ge j n with h | h
      · exact h
      · exact absurd hj (tail_waits hs hc hn inv _ i rfl hin hun j h)
    refine ⟨hjn, ?_⟩
    by_cases hji : j = i
    · subst hji; exact hy.qOp hi H
    · have := hdone _ _ H j (ready_mono hj hji)
      omega
  | succ f ih =>
    intro listed a inv hfree hr hy H
    have hun := (mem_ready.1 hr).1
    refine ⟨fun h => (by rw [h] at hr; cases hr), fun j hj => ?_⟩
    have hjn : j < n := by
      rcases Nat.lt_or_ge j n with h | h
      · exact h
      · exact absurd hj (tail_waits hs hc hn inv _ i rfl hin hun j h)
    refine ⟨hjn, ?_⟩
    by_cases hji : j = i
    · subst hji; exact hy.qOp hi H
    · have h1 := (H.2 j (ready_mono hj hji)).2
      obtain ⟨hjun, oj, hoj, hall⟩ := mem_ready.1 hj
      have hnot : ∀ e ∈ oj.after, Region.binds md e = true → e.on ≠ i := fun e he hb heq => by
        have h1 := hall e he hb
        rw [heq, getD_both hun] at h1
        cases h1
      have h2 := qOp_put hoj (hfree j oj hoj hji hjun hnot) (fun cs b => hsel i oi cs b hi) (fun cs b => hsel j oj cs b hoj) hy h1
      have hfree' : ∀ k ok, ops[k]? = some ok → k ≠ i → (listed.setIfInBounds j true).getD k true = false →
          (∀ e ∈ ok.after, Region.binds md e = true → e.on ≠ i) → oi.apart ops ok = true := fun k ok hk hki hun hno => by
        refine hfree k ok hk hki ?_ hno
        by_cases hjk : j = k
        · subst hjk; exact hjun
        · rw [getD_set_ne true hjk] at hun; exact hun
      refine qOp_mono (fun a' h3 => ih (listed.setIfInBounds j true) a' (inv.set hj hjn) hfree' (ready_mono hr (Ne.symm hji)) h3.1 ?_) h2
      rw [Array.setIfInBounds_comm _ _ hji]
      exact h3.2
theorem wpAnyLQ_lex {n g : Nat} {Lq : Act → Prop} (hsel : Region.noSelect ops = true) (hs : Region.sinkB md ops n = true) (hc : Region.chainB md ops n = true) (hn : n < ops.size) :
    ∀ (l : List Oper) (k : Nat) (listed : Array Bool) (a : Act), (∀ j, j < l.length → l[j]? = ops[k + j]?) → k + l.length = n → HeadInv md ops n listed →
    Region.lexHead md ops g l.length k listed = true → wpQuiet P ops C Lq l a →
    wpAnyLQ P md ops C n (fun listed' a' => Region.seqB md ops g n listed' = true ∧ Lq a') l.length listed a
  | [], k, listed, a, _, hk, _, hB, h => by
    have : k = n := by simpa using hk
    subst this
    exact ⟨by simpa [Region.lexHead] using hB, h⟩
  | o :: l, k, listed, a, hl, hk, inv, hB, h => by
    have h0 : ops[k]? = some o := by simpa using (hl 0 (by simp)).symm
    simp only [List.length_cons, Region.lexHead, Bool.and_eq_true] at hB
    obtain ⟨⟨hr, hf⟩, hB'⟩ := hB
    have hkn : k < n := by simp only [List.length_cons] at hk; omega
    have hr' : k ∈ Region.ready md ops listed := by simpa using hr
    have hst : qOp P ops C k (wpQuiet P ops C Lq l) a := by unfold qOp; simp only [h0]; exact h
    obtain ⟨v, hy, hK⟩ := yieldsIn_of_qOp h0 hst
    exact wpAnyLQ_first h0 (Region.noSelect_spec hsel) hs hc hn hkn (fun listed' a' hL => seqB_ready hL.1) l.length listed a inv (Region.free_spec h0 hf) hr' hy
      (wpAnyLQ_lex hsel hs hc hn l (k + 1) _ _ (fun j hj => by have := hl (j + 1) (by simp; omega); simpa [Nat.add_assoc, Nat.add_comm 1 j] using this) (by simp only [List.length_cons] at hk; omega) (inv.set hr' hkn) hB' hK)
theorem wp_region_quiet_tail {id : Nat} {Q : Exit → Act → World → Prop} {a : Act} {w : World} {l : List Oper} (n : Nat) (hm : P.follows .mixedOrders = true) (hB : Region.lexTailB .any l.toArray n = true)
    (hC : C { w with drawn := w.drawn + 1 })
    (h : wpQuiet P l.toArray C (fun a' => ∀ w', C w' → wpList P l.toArray Q (l.drop n) a' w') (l.take n) a) : (Code.region id l.toArray true).wp P Q a w := by
  simp only [Region.lexTailB, Bool.and_eq_true, decide_eq_true_eq] at hB
  obtain ⟨⟨⟨⟨hsel, hn⟩, hs⟩, hc⟩, hlex⟩ := hB
  have hn' : n < l.length := by simpa using hn
  have htl : (l.take n).length = n := by simp; omega
  have hdl : (l.drop n).length = l.toArray.size - n := by simp
  have inv0 : HeadInv .any l.toArray n (Array.replicate l.toArray.size false) :=
    ⟨by simp, fun j oj _ hl => (by rw [getD_replicate_false] at hl; cases hl), fun t _ ht => getD_in (by simpa using ht) (getD_replicate_false _ _)⟩
  have H := wpAnyLQ_lex (md := .any) (g := l.toArray.size - n) hsel hs hc hn (l.take n) 0 _ a (fun j hj => by
    have hj' : j < n := by rw [htl] at hj; exact hj
    simp [hj']) (by simpa using htl) inv0 (by rw [htl]; exact hlex) h
  refine wp_region_any hm ?_
  have := wpAny_of_headQ (C := C) (Q' := Q) (g := l.toArray.size - n) (fun listed a' w' hw' hL => by
    have := wpAny_of_seq (md := .any) (Q' := Q) (l.drop n) n listed a' w' (fun j => by simp [List.getElem?_drop]) (by rw [hdl]; exact hL.1) (hL.2 w' hw')
    rwa [hdl] at this) _ _ _ _ hC H
  rw [htl, show n + (l.toArray.size - n) = l.toArray.size by omega] at this
  exact this
theorem region_pure_tail {id : Nat} {Q : Exit → Act → World → Prop} {a : Act} {w : World} {l : List Oper} (n : Nat) (hm : P.follows .mixedOrders = true) (hB : Region.lexTailB .any l.toArray n = true)
    (h : ∀ (I : Type) (_ : Nonempty I) (f : I → World), (∀ i, Below w.heap.size w (f i)) → Hid (∀ w', Below w.heap.size w w' → ∃ j, w' = f j) →
      wpQuiet P l.toArray (fun w' => ∃ i, w' = f i) (fun a' => ∀ i, wpList P l.toArray Q (l.drop n) a' (f i)) (l.take n) a) : (Code.region id l.toArray true).wp P Q a w := by
  let I := { w' : World // Below w.heap.size w w' }
  have hn : Nonempty I := ⟨⟨w, Below.refl _ _⟩⟩
  have h' := h I hn (fun i => i.val) (fun i => i.property) (fun w' hw => ⟨⟨w', hw⟩, rfl⟩)
  refine wp_region_quiet_tail (C := fun w' => ∃ i : I, w' = i.val) n hm hB ⟨⟨_, (Below.refl _ w).drew⟩, rfl⟩ ?_
  have e : (fun a' => ∀ i : I, wpList P l.toArray Q (l.drop n) a' i.val) = (fun a' => ∀ w', (∃ i : I, w' = i.val) → wpList P l.toArray Q (l.drop n) a' w') := by
    funext a'
    apply propext
    constructor
    · rintro hi w' ⟨i, rfl⟩; exact hi i
    · intro hi i; exact hi _ ⟨i, rfl⟩
  rw [e] at h'
  exact h'
end
end Go.Proofs.YtfdijpacbhomjaaGreatDoor
namespace Go.Proofs.YtfdijpacbhomjaaGreatDoor
open Go.RowKit
def byteV (b : UInt8) : Value := .int .u8 b.toNat
def bytesV (l : List UInt8) : List Value := l.map byteV
theorem byteV_one (b : UInt8) : (byteV b).oneCell' = true := by simp [byteV, Value.oneCell']
def str (l : List UInt8) : ByteArray := ⟨l.toArray⟩
theorem str_data (l : List UInt8) : (str l).data.toList = l := rfl
theorem str_size (l : List UInt8) : (str l).size = l.length := by show l.toArray.size = _; simp
end Go.Proofs.YtfdijpacbhomjaaGreatDoor
namespace Go.Proofs.YtfdijpacbhomjaaGreatDoor
open Go.RowKit
def hcells (v : Sha.W8) (lv : Value) (n : Int) : Array Value := #[.int .u32 v.a, .int .u32 v.b, .int .u32 v.c, .int .u32 v.d, .int .u32 v.e, .int .u32 v.f, .int .u32 v.g, .int .u32 v.h, lv, .int .i64 n]
def HashAt (base : Nat) (w : World) (g : Nat) (m : List UInt8) : Prop :=
  ∃ lv, base ≤ g ∧ w.heap[g]? = some (.cells (hcells (Sha.blocks Sha.start m) lv m.length) 351 (0, 0)) ∧ w.ownsRow base 5 1 lv (Sha.rest m).length (bytesV (Sha.rest m))
theorem HashAt.below {base : Nat} {w w' : World} {g : Nat} {m : List UInt8} (h : HashAt base w g m) (hb : Below w.heap.size w w') : HashAt base w' g m := by
  obtain ⟨lv, h1, h2, h3⟩ := h
  exact ⟨lv, h1, heap_below h2 hb, ownsRow_below h3 hb⟩
theorem info_byte : (Tryz.prog.info? 5).map (fun i => (i.zero, i.size, i.bytes)) = some (some (.int .u8 0), 1, 1) := by kernel_rfl
theorem ElemsAt.setCell {α : Type} {c : α → Value} {w : World} {a : Option Addr} {cap : Nat} {xs : List α} (h : ElemsAt (Shape.flat 1 (fun x => [c x]) (fun _ => rfl)) w a cap xs) (p : Addr) (hne : ∀ x, a = some x → x.block ≠ p.block) (u : Value) :
    ElemsAt (Shape.flat 1 (fun x => [c x]) (fun _ => rfl)) (w.setCell p u) a cap xs := by
  rcases h with h | ⟨b, off, rfl, hlt, hl, hm, hc⟩
  · exact .inl h
  · refine .inr ⟨b, off, rfl, by simpa [World.setCell] using hlt, hl, hm, fun i x hx => ?_⟩
    obtain ⟨cs, h1, h2⟩ := hc i x hx
    refine ⟨cs, h1, fun j v hj => ?_⟩
    have e : ∀ k, (w.setCell p u).cell? ⟨b, k, none⟩ = w.cell? ⟨b, k, none⟩ := fun k => World.cell?_of_block (heap_setCell_ne (hne _ rfl) u)
    rw [e]
    exact h2 j v hj
theorem mix_lit (st : Sha.W8) (hf : st.Fit) (b off cap : Nat) (l : List UInt8) (hl : l.length = 64) (w : World) (he : ElemsAt bytesS w (some ⟨b, off, none⟩) cap l) :
    Calls Tryz.prog 239 #[.agg #[.int .u32 st.a, .int .u32 st.b, .int .u32 st.c, .int .u32 st.d, .int .u32 st.e, .int .u32 st.f, .int .u32 st.g, .int .u32 st.h], .slice (some ⟨b, off, none⟩) 64 cap] w fun e w' =>
      e = .returned (.agg #[.int .u32 (Sha.mix st l).a, .int .u32 (Sha.mix st l).b, .int .u32 (Sha.mix st l).c, .int .u32 (Sha.mix st l).d, .int .u32 (Sha.mix st l).e, .int .u32 (Sha.mix st l).f, .int .u32 (Sha.mix st l).g, .int .u32 (Sha.mix st l).h]) ∧ Below w.heap.size w w' :=
  mix_any st hf b off cap l hl w he
theorem ElemsAt.drop {α : Type} {c : α → Value} {w : World} {b off cap : Nat} {xs : List α} (h : ElemsAt (Shape.flat 1 (fun x => [c x]) (fun _ => rfl)) w (some ⟨b, off, none⟩) cap xs) (k : Nat) (hk : k ≤ xs.length) :
    ElemsAt (Shape.flat 1 (fun x => [c x]) (fun _ => rfl)) w (some ⟨b, off + k, none⟩) (cap - k) (xs.drop k) := by
  rcases h with ⟨rfl, h1, h2⟩ | ⟨b', off', e, hlt, hl, hm, hc⟩
  · exact .inl ⟨by simp, by omega, by simp⟩
  · cases e
    refine .inr ⟨b, off + k, rfl, hlt, by simp; omega, by omega, fun i x hx => ?_⟩
    rw [List.getElem?_drop] at hx
    obtain ⟨cs, h1, h2⟩ := hc (k + i) x hx
    refine ⟨cs, h1, fun j u hj => ?_⟩
    have := h2 j u hj
    have e : off + k + i * (Shape.flat 1 (fun x => [c x]) (fun _ => rfl)).n + j = off + (k + i) * (Shape.flat 1 (fun x => [c x]) (fun _ => rfl)).n + j := by simp only [Shape.flat]; omega
    rw [e]; exact this
theorem ElemsAt.take {α : Type} {S : Shape α} {w : World} {a : Option Addr} {cap : Nat} {xs : List α} (h : ElemsAt S w a cap xs) (n : Nat) : ElemsAt S w a cap (xs.take n) := by
  rcases h with ⟨rfl, h⟩ | ⟨b, off, rfl, hlt, hl, hm, hc⟩
  · exact .inl ⟨by simp, h⟩
  · refine .inr ⟨b, off, rfl, hlt, by simp; omega, hm, fun i x hx => hc i x ?_⟩
    rw [List.getElem?_take] at hx
    split at hx
    · exact hx
    · cases hx
set_option maxRecDepth 100000 in
set_option maxHeartbeats 2000000 in
theorem write_any (base g : Nat) (m : List UInt8) (s : ByteArray) (w : World) (hbase : base ≤ w.heap.size) (hsz : m.length + s.size ≤ 140737488355200) (hh : HashAt base w g m) :
    Calls Tryz.prog 171 #[.pointer (some ⟨g, 0, none⟩), .string s] w fun e w' => e = .returned (.tuple #[]) ∧ HashAt base w' g (m ++ s.data.toList) ∧ Below base w w' := by
  obtain ⟨lv, hbg, hg, hown⟩ := hh
  have hlr := Sha.rest_length m
  generalize hst : Sha.blocks Sha.start m = st at *
  generalize hrl : Sha.rest m = rl at *
  have c8 := cell_of hg 8
  have c9 := cell_of hg 9
  have z8 := frozen_of hg 8
  have z9 := frozen_of hg 9
  simp [hcells] at c8 c9
  have hne := ownBlock_ne hown hg (by decide)
  have hown1 := Lib.hid (ownsRow_setCell_ne hown ⟨g, 9, none⟩ hne (.int .i64 (m.length + s.size)))
  have hg1 := Lib.hid (heap_setCell hg 9 (.int .i64 (m.length + s.size)))
  have hb1 := Lib.hid ((Below.refl base w).setCell (p := ⟨g, 9, none⟩) hbg (.int .i64 (m.length + s.size)))
  have hlt := lt_of_heap hg
  have HNE := Lib.hid hne
  have HR := Lib.hid hrl
  have HS := Lib.hid hst
  have HL := Lib.hid hlr
  have hlr' : rl.length < 64 := by omega
  obtain ⟨i0, hi, hz0, hz1, hz2⟩ := info_parts info_byte
  clear hg hrl hst hlr hown hne
  go_enter Tryz.func171, Tryz.ntmps171
  go_wp2_with (at_builtin; refine Lib.wpList_append_own_string _ rfl _ _ 187 9 rfl base 5 i0 Tryz.underlying187 Tryz.underlying9 hi hz0 hz1 hz2 lv _ _ rfl hown1.out s rfl (by simp [maxLen]; omega) (by omega) (by simp [World.setCell]; omega) ?_)
  intro v' w1 hown2 hgr2 _
  have hg2 : w1.heap[g]? = _ := (hgr2.block g (by simpa [World.setCell] using hlt) (by intro e; exact HNE.out e.symm)).trans hg1.out
  have hb2 : Below base w w1 := hb1.out.grown hgr2 (by simp [World.setCell]; omega) (fun k hk => (hown1.out.lt k hk).1)
  have hne2 := ownBlock_ne hown2 hg2 (by decide)
  have ha : bytesV rl ++ Lib.strCells s = bytesV (rl ++ s.data.toList) := by simp only [bytesV, List.map_append]; rfl
  rw [ha] at hown2
  have c8' := cell_of hg2 8
  have z8' := frozen_of hg2 8
  simp [hcells] at c8'
  obtain ⟨av, capv, hv', hel⟩ := elems_of_owned byteV hown2
  have hlen : (rl ++ s.data.toList).length = rl.length + s.size := by simp
  have hnb : ∀ x, av = some x → x.block ≠ g := by
    rintro x rfl e
    rw [hv'] at hne2
    exact hne2 (by simp [Value.ownBlock, e])
  rw [hv'] at hown2 ⊢
  have hel3 : Hid (ElemsAt bytesS _ av capv (rl ++ s.data.toList)) := Lib.hid (hel.setCell ⟨g, 8, none⟩ hnb (.slice av (rl ++ s.data.toList).length capv))
  have hg3 := Lib.hid (heap_setCell hg2 8 (.slice av (rl ++ s.data.toList).length capv))
  have hb3 := Lib.hid (hb2.setCell (p := ⟨g, 8, none⟩) hbg (.slice av (rl ++ s.data.toList).length capv))
  have HV := Lib.hid hv'
  have HNB := Lib.hid hnb
  have HLEN := Lib.hid hlen
  clear hown2
  generalize hall : rl ++ s.data.toList = all at *
  have HALL := Lib.hid hall
  clear hgr2 hg2 hb2 hne2 ha c8 z8 hel hv' hnb hall hlen c9 z9
  go_wp2_with fail
  go_loopg [] (all.length / 64) (fun k wr => ∃ (j : Nat) (a : Option Addr) (cap : Nat), j + k = all.length / 64 ∧ Below base w wr ∧ wr.heap[g]? = some (.cells (hcells (Sha.blocksN st all j) (.slice a (all.length - 64 * j) cap) (m.length + s.size)) 351 (0, 0)) ∧
    ElemsAt bytesS wr a cap (all.drop (64 * j)) ∧ ∀ x, a = some x → x.block ≠ g)
  case atStart => 
    refine ⟨0, av, capv, by omega, hb3.out, ?_, by simpa using hel3.out, HNB.out⟩
    rw [hg3.out]
    simp [hcells, Sha.blocksN]
  case round =>
    obtain ⟨j, a, cap, hj, hb, hg, he, hnb⟩ := hrel
    have hg' := Lib.hid hg
    have hb' := Lib.hid hb
    have he' := Lib.hid he
    have hnb' := Lib.hid hnb
    clear hel3 hg3 hb3 HNB hb hnb he
    by_cases hjk : j < all.length / 64
    · have hlen : (all.drop (64 * j)).length = all.length - 64 * j := by simp
      obtain ⟨b, off, ha, hbl, _⟩ := he'.out.byte (i := 0) (by omega)
      subst ha
      have c8 := cell_of hg 8
      simp [hcells] at c8
      clear hg
      have hge : (64 : Int) ≤ ((all.length - 64 * j : Nat) : Int) := by omega
      go_wp2_with fail
      have hfit : (Sha.blocksN st all j).Fit := Sha.blocksN_fit j all (by rw [← HS.out]; exact Sha.blocks_fit m Sha.start_fit)
      have hmix : Hid (Sha.blocksN st all (j + 1) = Sha.mix (Sha.blocksN st all j) ((all.drop (64 * j)).take 64)) := Sha.blocksN_succ j st all
      have hl64 : ((all.drop (64 * j)).take 64).length = 64 := by simp; omega
      have HL64 := Lib.hid hl64
      have HFIT := Lib.hid hfit
      have heT := Lib.hid (he'.out.take 64)
      generalize Sha.blocksN st all j = x at *
      clear hl64 hlen hfit
      refine region_pure_tail 13 (by kernel_rfl) (by kernel_rfl) fun I ne f hfb hback => ?_
      simp only [List.take_succ_cons, List.take_zero, List.drop_succ_cons, List.drop_zero]
      have hcg : ∀ i k, (f i).cell? ⟨g, k, none⟩ = wr.cell? ⟨g, k, none⟩ := fun i k => (hfb i).cell (lt_of_heap hg'.out)
      have d0 : ∀ i, (f i).cell? ⟨g, 0, none⟩ = some (.int .u32 x.a) := fun i => by rw [hcg, cell_of hg'.out]; rfl
      have d1 : ∀ i, (f i).cell? ⟨g, 1, none⟩ = some (.int .u32 x.b) := fun i => by rw [hcg, cell_of hg'.out]; rfl
      have d2 : ∀ i, (f i).cell? ⟨g, 2, none⟩ = some (.int .u32 x.c) := fun i => by rw [hcg, cell_of hg'.out]; rfl
      have d3 : ∀ i, (f i).cell? ⟨g, 3, none⟩ = some (.int .u32 x.d) := fun i => by rw [hcg, cell_of hg'.out]; rfl
      have d4 : ∀ i, (f i).cell? ⟨g, 4, none⟩ = some (.int .u32 x.e) := fun i => by rw [hcg, cell_of hg'.out]; rfl
      have d5 : ∀ i, (f i).cell? ⟨g, 5, none⟩ = some (.int .u32 x.f) := fun i => by rw [hcg, cell_of hg'.out]; rfl
      have d6 : ∀ i, (f i).cell? ⟨g, 6, none⟩ = some (.int .u32 x.g) := fun i => by rw [hcg, cell_of hg'.out]; rfl
      have d7 : ∀ i, (f i).cell? ⟨g, 7, none⟩ = some (.int .u32 x.h) := fun i => by rw [hcg, cell_of hg'.out]; rfl
      have d8 : ∀ i, (f i).cell? ⟨g, 8, none⟩ = some (.slice (some ⟨b, off, none⟩) (all.length - 64 * j) cap) := fun i => by rw [hcg, cell_of hg'.out]; rfl
      have hcap : (64 : Int) ≤ cap := by
        rcases he'.out with ⟨h0, _⟩ | ⟨_, _, _, _, hlc, _⟩
        · have := congrArg List.length h0; simp at this; omega
        · simp at hlc; omega
      have hfb' := Lib.hid hfb
      clear hfb hcg c8
      repeat (quiet_step ((go_at_call 239; exact pure_of hfb'.out hback (mix_lit x HFIT.out b off cap ((all.drop (64 * j)).take 64) HL64.out _ (heT.out.mono (hfb'.out _))))))
      refine wpQuiet_nil ?_
      intro i
      have hfi := hfb'.out i
      have hg3 : (f i).heap[g]? = _ := heap_below hg'.out hfi
      have he3 := Lib.hid (he'.out.mono hfi)
      have hb3 := Lib.hid (hb'.out.trans (hfi.mono (Nat.le_trans hbase hb'.out.size)))
      generalize f i = w3 at *
      clear hfi hback hfb' d0 d1 d2 d3 d4 d5 d6 d7 d8 hg' he' hb' heT
      have z0 := frozen_of hg3 0
      have z1 := frozen_of hg3 1
      have z2 := frozen_of hg3 2
      have z3 := frozen_of hg3 3
      have z4 := frozen_of hg3 4
      have z5 := frozen_of hg3 5
      have z6 := frozen_of hg3 6
      have z7 := frozen_of hg3 7
      have z8 := frozen_of hg3 8
      have c0 := cell_of hg3 0
      have c1 := cell_of hg3 1
      have c2 := cell_of hg3 2
      have c3 := cell_of hg3 3
      have c4 := cell_of hg3 4
      have c5 := cell_of hg3 5
      have c6 := cell_of hg3 6
      have c7 := cell_of hg3 7
      have c8 := cell_of hg3 8
      simp [hcells] at c0 c1 c2 c3 c4 c5 c6 c7 c8
      generalize hY : Sha.mix x ((all.drop (64 * j)).take 64) = y at *
      have HG3 := Lib.hid hg3
      clear hg3 HL64 HFIT hY
      have hcapn : 64 ≤ cap := by omega
      have hbg2 : b ≠ g := hnb'.out ⟨b, off, none⟩ rfl
      by_cases hce : cap = 64
      · have hd : all.drop (64 * (j + 1)) = [] := by
          rcases he3.out with ⟨h0, _⟩ | ⟨_, _, _, _, hlc, _⟩
          · have := congrArg List.length h0; simp at this
            apply List.drop_eq_nil_of_le; omega
          · simp at hlc
            apply List.drop_eq_nil_of_le; omega
        have HD := Lib.hid hd
        have hll : Hid (all.length - 64 * j - 64 = 0) := by have := congrArg List.length hd; simp at this; show _ = _; omega
        have hce' : ((cap : Nat) : Int) = 64 := by omega
        clear hd
        go_wp2_with fail
        go_roundg (gk - 1)
        case measure => omega
        case rel =>
          refine ⟨j + 1, some ⟨b, off, none⟩, cap - 64, by omega, (((((((((hb3.out.setCell (p := ⟨g, 0, none⟩) hbg _).setCell (p := ⟨g, 1, none⟩) hbg _).setCell (p := ⟨g, 2, none⟩) hbg _).setCell (p := ⟨g, 3, none⟩) hbg _).setCell (p := ⟨g, 4, none⟩) hbg _).setCell (p := ⟨g, 5, none⟩) hbg _).setCell (p := ⟨g, 6, none⟩) hbg _).setCell (p := ⟨g, 7, none⟩) hbg _).setCell (p := ⟨g, 8, none⟩) hbg _), ?_, ?_, hnb'.out⟩
          · rw [heap_setCell (heap_setCell (heap_setCell (heap_setCell (heap_setCell (heap_setCell (heap_setCell (heap_setCell (heap_setCell HG3.out 0 _) 1 _) 2 _) 3 _) 4 _) 5 _) 6 _) 7 _) 8 _, hmix.out, show all.length - 64 * (j + 1) = all.length - 64 * j - 64 by omega]
            simp [hcells]
            omega
          · rw [HD.out]; exact .inl ⟨rfl, by have : maxLen = 9223372036854775807 := rfl; omega, by simp⟩
      · have hce' : (64 : Int) < cap := by omega
        go_wp2_with fail
        go_roundg (gk - 1)
        case measure => omega
        case rel =>
          refine ⟨j + 1, some ⟨b, off + 64, none⟩, cap - 64, by omega, (((((((((hb3.out.setCell (p := ⟨g, 0, none⟩) hbg _).setCell (p := ⟨g, 1, none⟩) hbg _).setCell (p := ⟨g, 2, none⟩) hbg _).setCell (p := ⟨g, 3, none⟩) hbg _).setCell (p := ⟨g, 4, none⟩) hbg _).setCell (p := ⟨g, 5, none⟩) hbg _).setCell (p := ⟨g, 6, none⟩) hbg _).setCell (p := ⟨g, 7, none⟩) hbg _).setCell (p := ⟨g, 8, none⟩) hbg _), ?_, ?_, by rintro x e; cases e; exact hbg2⟩
          · rw [heap_setCell (heap_setCell (heap_setCell (heap_setCell (heap_setCell (heap_setCell (heap_setCell (heap_setCell (heap_setCell HG3.out 0 _) 1 _) 2 _) 3 _) 4 _) 5 _) 6 _) 7 _) 8 _, hmix.out, show all.length - 64 * (j + 1) = all.length - 64 * j - 64 by omega]
            simp [hcells]
          · have hd := he3.out.drop 64 (by simp; omega)
            rw [List.drop_drop, show 64 * j + 64 = 64 * (j + 1) by omega] at hd
            exact (ElemsAt.setCell (c := byteV) (ElemsAt.setCell (c := byteV) (ElemsAt.setCell (c := byteV) (ElemsAt.setCell (c := byteV) (ElemsAt.setCell (c := byteV) (ElemsAt.setCell (c := byteV) (ElemsAt.setCell (c := byteV) (ElemsAt.setCell (c := byteV) (ElemsAt.setCell (c := byteV) hd ⟨g, 0, none⟩ (by rintro x e; cases e; exact hbg2) _) ⟨g, 1, none⟩ (by rintro x e; cases e; exact hbg2) _) ⟨g, 2, none⟩ (by rintro x e; cases e; exact hbg2) _) ⟨g, 3, none⟩ (by rintro x e; cases e; exact hbg2) _) ⟨g, 4, none⟩ (by rintro x e; cases e; exact hbg2) _) ⟨g, 5, none⟩ (by rintro x e; cases e; exact hbg2) _) ⟨g, 6, none⟩ (by rintro x e; cases e; exact hbg2) _) ⟨g, 7, none⟩ (by rintro x e; cases e; exact hbg2) _) ⟨g, 8, none⟩ (by rintro x e; cases e; exact hbg2) _)
    · have ej : j = all.length / 64 := by omega
      have hlt64 : ((all.length - 64 * j : Nat) : Int) < 64 := by omega
      have hdl : (all.drop (64 * j)).length = all.length - 64 * j := by simp
      have HDL := Lib.hid hdl
      have EJ := Lib.hid ej
      have c8 := cell_of hg 8
      have z8 := frozen_of hg 8
      simp [hcells] at c8
      have hbw := hb'.out.size
      clear hg hdl ej
      go_wp2_with (at_builtin; refine wpList_append_flat byteV byteV_one rfl _ _ 187 rfl base 5 (.int .u8 0) 1 Tryz.underlying187 info_byte rfl (.slice none 0 0) 0 [] rfl (World.ownsRow_nil _ _ _ _) a (all.length - 64 * j) cap (all.drop (64 * j)) HDL.out rfl he'.out (by omega) (by decide) (by omega) ?_)
      intro v2 w4 hown4 hgr4
      replace hown4 : w4.ownsRow base 5 1 v2 (all.length - 64 * j) ((all.drop (64 * j)).map byteV) := by first | exact hown4 | (rw [List.map_drop]; exact hown4) | simpa using hown4
      have hg4 : w4.heap[g]? = _ := (hgr4.block g (lt_of_heap hg'.out) (by simp [Value.ownBlock])).trans hg'.out
      have hb4 : Below base w w4 := hb'.out.grown hgr4 (by omega) (fun k hk => by simp [Value.ownBlock] at hk)
      have hne4 := ownBlock_ne hown4 hg4 (by decide)
      obtain ⟨a4, cap4, hv4, _⟩ := elems_of_owned byteV hown4
      rw [hv4, HDL.out] at hown4 hne4
      rw [hv4, HDL.out]
      have c8' := cell_of hg4 8
      have z8' := frozen_of hg4 8
      simp [hcells] at c8'
      have hg5 := Lib.hid (heap_setCell hg4 8 (.slice a4 (all.length - 64 * j) cap4))
      have hown5 := Lib.hid (ownsRow_setCell_ne hown4 ⟨g, 8, none⟩ hne4 (.slice a4 (all.length - 64 * j) cap4))
      have hb5 := Lib.hid (hb4.setCell (p := ⟨g, 8, none⟩) hbg (.slice a4 (all.length - 64 * j) cap4))
      clear hgr4 hg4 hb4 hown4 hne4 hv4 c8 z8
      go_wp2
      go_end0
      refine ⟨rfl, ⟨.slice a4 (all.length - 64 * j) cap4, hbg, ?_, ?_⟩, hb5.out⟩
      · rw [hg5.out, Sha.blocks_append, HS.out, HR.out, HALL.out, EJ.out]
        simp [hcells, Sha.blocks]
      · have e : Sha.rest (m ++ s.data.toList) = all.drop (64 * j) := by rw [Sha.rest_append, HR.out, HALL.out, EJ.out]; rfl
        rw [e, HDL.out]
        exact hown5.out
end Go.Proofs.YtfdijpacbhomjaaGreatDoor
namespace Go.Proofs.YtfdijpacbhomjaaGreatDoor
open Go.RowKit
def padK (m : List UInt8) (k : Nat) : List UInt8 := Sha.rest m ++ 0x80 :: List.replicate k 0
theorem padK_snoc (m : List UInt8) (k : Nat) : bytesV (padK m k) ++ [byteV 0] = bytesV (padK m (k + 1)) := by
  simp [bytesV, padK, List.replicate_succ']
theorem padK_length (m : List UInt8) (k : Nat) : (padK m k).length = m.length % 64 + 1 + k := by
  simp [padK, Sha.rest_length]; omega
theorem be8_get (N j : Nat) (hj : j < 8) : (Sha.be8 N)[j]? = some (UInt8.ofNat (N >>> (56 - 8 * j))) := by
  have : j = 0 ∨ j = 1 ∨ j = 2 ∨ j = 3 ∨ j = 4 ∨ j = 5 ∨ j = 6 ∨ j = 7 := by omega
  rcases this with rfl | rfl | rfl | rfl | rfl | rfl | rfl | rfl <;> rfl
theorem be8_byte (n j : Nat) : byteV (UInt8.ofNat ((8 * n) >>> (56 - 8 * j))) = .int .u8 ((n : Int) * 8 / 2 ^ (56 - 8 * j) % 256) := by
  unfold byteV
  congr 1
  rw [UInt8.toNat_ofNat', Nat.shiftRight_eq_div_pow, Nat.mul_comm 8 n]
  simp
theorem be8_snoc (q : List UInt8) (n j : Nat) (hj : j < 8) : bytesV (q ++ (Sha.be8 (8 * n)).take j) ++ [Value.int .u8 ((n : Int) * 8 / 2 ^ (56 - 8 * j) % 256)] = bytesV (q ++ (Sha.be8 (8 * n)).take (j + 1)) := by
  rw [← be8_byte, List.take_add_one, be8_get _ _ hj]
  simp [bytesV]
theorem w8_word (x : Sha.W8) (u : Nat) (hu : u < 8) : ∃ n : Nat, (w8c x)[u]? = some (.int .u32 n) ∧ x.bytes.take (4 * (u + 1)) = x.bytes.take (4 * u) ++ Sha.be4 n := by
  have : u = 0 ∨ u = 1 ∨ u = 2 ∨ u = 3 ∨ u = 4 ∨ u = 5 ∨ u = 6 ∨ u = 7 := by omega
  rcases this with rfl | rfl | rfl | rfl | rfl | rfl | rfl | rfl <;> exact ⟨_, rfl, rfl⟩
theorem be4_vals (n : Nat) : bytesV (Sha.be4 n) = [.int .u8 ((n : Int) / 16777216 % 256), .int .u8 ((n : Int) / 65536 % 256), .int .u8 ((n : Int) / 256 % 256), .int .u8 ((n : Int) % 256)] := by
  simp only [bytesV, Sha.be4, List.map_cons, List.map_nil, byteV, UInt8.toNat_ofNat', Nat.shiftRight_eq_div_pow]
  simp
set_option maxRecDepth 100000 in
set_option maxHeartbeats 4000000 in
theorem hsum_any (base g : Nat) (m : List UInt8) (w : World) (hm : m.length ≤ 140737488355200) (hh : HashAt base w g m) :
    Calls Tryz.prog 172 #[.pointer (some ⟨g, 0, none⟩)] w fun e w' => e = .returned (.string ⟨(Sha.sum m).toArray⟩) ∧ Below w.heap.size w w' := by
  obtain ⟨lv, hbg, hg, hown⟩ := hh
  have hlr := Sha.rest_length m
  have hfit : (Sha.blocks Sha.start m).Fit := Sha.blocks_fit m Sha.start_fit
  generalize hst : Sha.blocks Sha.start m = st at *
  obtain ⟨av, capv, hv, hel⟩ := elems_of_owned byteV hown
  subst hv
  have c8 := cell_of hg 8
  simp [hcells] at c8
  have HG := Lib.hid hg
  have HS := Lib.hid hst
  have HL := Lib.hid hlr
  have HEL : Hid (ElemsAt bytesS w av capv (Sha.rest m)) := hel
  have hlr' : (Sha.rest m).length < 64 := by omega
  clear hg hst hown hel hlr
  go_enter Tryz.func172, Tryz.ntmps172
  go_wp2_with (at_builtin; refine wpList_append_flat byteV byteV_one rfl _ _ 187 rfl w.heap.size 5 (.int .u8 0) 1 Tryz.underlying187 info_byte rfl (.slice none 0 0) 0 [] rfl (World.ownsRow_nil _ _ _ _) av _ capv (Sha.rest m) rfl rfl HEL.out (by omega) (by decide) (Nat.le_refl _) ?_)
  intro v1 w1 hown1 hgr1
  replace hown1 : w1.ownsRow w.heap.size 5 1 v1 (Sha.rest m).length (bytesV (Sha.rest m)) := by first | exact hown1 | simpa using hown1
  have hb1 : Below w.heap.size w w1 := (Below.refl _ _).grown hgr1 (Nat.le_refl _) (fun k hk => by simp [Value.ownBlock] at hk)
  have hsz1 := hb1.size
  go_wp2_with (at_builtin; refine wpList_append_elem rfl _ _ 187 rfl w.heap.size 5 (.int .u8 0) 1 1 Tryz.underlying187 info_byte rfl (by decide) _ _ _ rfl hown1 _ rfl rfl (by simp [Value.oneCell']) (by omega) (by decide) hsz1 ?_)
  intro v2 w2 hown2 hgr2
  have hb2 := below_append hb1 hown1 hgr2 hsz1 (Nat.le_refl _)
  replace hown2 : w2.ownsRow w.heap.size 5 1 v2 ((Sha.rest m).length + 1) (bytesV (padK m 0)) := by
    have e : bytesV (Sha.rest m) ++ [byteV 0x80] = bytesV (padK m 0) := by simp [bytesV, padK]
    rw [← e]; exact hown2
  clear hgr2 hgr1 hb1 hsz1 hown1
  go_wp2_with fail
  go_loopg [3] (Sha.zeros (m.length + 1)) (fun k v wr => ∃ j : Nat, j + k = Sha.zeros (m.length + 1) ∧ Below w.heap.size w wr ∧ wr.ownsRow w.heap.size 5 1 v ((padK m j).length) (bytesV (padK m j)))
  case atStart => exact ⟨0, by omega, hb2, by rw [padK_length]; rw [HL.out] at hown2; exact hown2⟩
  case round =>
    obtain ⟨j, hj, hb, hown⟩ := hrel
    have hsz := hb.size
    have hpl := padK_length m j
    have HO := Lib.hid hown
    clear hown hown2 hb2
    by_cases hz : j < Sha.zeros (m.length + 1)
    · have hne : ((((padK m j).length : Nat) : Int) % 64 == 56) = false := by
        have hz2 := hz
        unfold Sha.zeros at hz2 hj
        rw [hpl]; simp; omega
      have HPL := Lib.hid hpl
      clear hpl
      obtain ⟨ap, capp, rfl, _⟩ := elems_of_owned byteV HO.out
      have hbd : (padK m j).length < 200 := by rw [HPL.out]; unfold Sha.zeros at hz; omega
      go_wp2_with (at_builtin; refine wpList_append_elem rfl _ _ 187 rfl w.heap.size 5 (.int .u8 0) 1 1 Tryz.underlying187 info_byte rfl (by decide) _ _ _ rfl HO.out _ rfl rfl (by simp [Value.oneCell']) (by omega) (by decide) hsz ?_)
      intro v3 w3 hown3 hgr3
      have hb3 := below_append hb HO.out hgr3 hsz (Nat.le_refl _)
      have e3 : bytesV (padK m j) ++ [byteV 0] = bytesV (padK m (j + 1)) := padK_snoc m j
      have e4 : (padK m (j + 1)).length = (padK m j).length + 1 := by rw [padK_length, padK_length]; omega
      have hown4 : w3.ownsRow w.heap.size 5 1 v3 (padK m (j + 1)).length (bytesV (padK m (j + 1))) := by rw [e4, ← e3]; exact hown3
      have HO4 := Lib.hid hown4
      clear hown3 hgr3 e3 e4 hown4
      go_wp2_with fail
      go_roundg (gk - 1)
      case measure => omega
      case rel => exact ⟨j + 1, by omega, hb3, HO4.out⟩
    · have ej : j = Sha.zeros (m.length + 1) := by omega
      have hne : ((((padK m j).length : Nat) : Int) % 64 == 56) = true := by
        rw [hpl, ej]; unfold Sha.zeros; simp; omega
      have hne' : ((((padK m j).length : Nat) : Int) % 64 != 56) = false := by rw [bne, hne]; rfl
      have hbd : (padK m j).length < 200 := by rw [hpl, ej]; unfold Sha.zeros; omega
      have EJ := Lib.hid ej
      have HPL := Lib.hid hpl
      clear hpl ej hz
      generalize hQ : padK m j = q at *
      have HQ := Lib.hid hQ
      clear hQ
      obtain ⟨ap, capp, rfl, _⟩ := elems_of_owned byteV HO.out
      go_wp2_with fail
      have hN : m.length * 8 ≤ 1125899906841600 := by omega
      clear hne hne'
      go_loopg [3, 26] 8 (fun k v i wr => ∃ j : Nat, j + k = 8 ∧ i = .int .i64 j ∧ Below w.heap.size w wr ∧ wr.ownsRow w.heap.size 5 1 v (q.length + j) (bytesV (q ++ (Sha.be8 (8 * m.length)).take j)))
      case atStart => exact ⟨0, by omega, rfl, hb, by simpa using HO.out⟩
      case round =>
        clear HO hb hsz
        obtain ⟨j, hj, rfl, hb, hown⟩ := hrel
        have hsz := hb.size
        have HO := Lib.hid hown
        clear hown
        obtain ⟨ap, capp, hv, _⟩ := elems_of_owned byteV HO.out
        have hlt9 : (q ++ (Sha.be8 (8 * m.length)).take j).length = q.length + j := by simp [Sha.be8]; omega
        rw [hlt9] at hv
        clear hlt9
        subst hv
        have c9 : wr.cell? ⟨g, 9, none⟩ = some (.int .i64 m.length) := by
          rw [hb.cell (lt_of_heap HG.out), cell_of HG.out]; rfl
        by_cases hj8 : j < 8
        · go_wp2_with (at_builtin; refine wpList_append_elem rfl _ _ 187 rfl w.heap.size 5 (.int .u8 0) 1 1 Tryz.underlying187 info_byte rfl (by decide) _ _ _ rfl HO.out _ rfl rfl (by simp [Value.oneCell']) (by omega) (by decide) hsz ?_)
          intro v3 w3 hown3 hgr3
          have hb3 := below_append hb HO.out hgr3 hsz (Nat.le_refl _)
          have e3 := be8_snoc q m.length j hj8
          have hown4 : w3.ownsRow w.heap.size 5 1 v3 (q.length + (j + 1)) (bytesV (q ++ (Sha.be8 (8 * m.length)).take (j + 1))) := by rw [← e3]; exact hown3
          have HO4 := Lib.hid hown4
          clear hown3 hgr3 e3 hown4
          go_wp2_with fail
          go_roundg (gk - 1)
          case measure => omega
          case rel => exact ⟨j + 1, by omega, by go_num, hb3, HO4.out⟩
        · have ej : j = 8 := by omega
          have hall : Hid (q ++ (Sha.be8 (8 * m.length)).take j = Sha.rest m ++ Sha.tail m.length) := by
            rw [ej, ← HQ.out, EJ.out]
            simp [padK, Sha.tail, Sha.be8, Hid]
          generalize hA : q ++ (Sha.be8 (8 * m.length)).take j = all at *
          have hal : all.length = q.length + j := by rw [← hA]; simp [Sha.be8]; omega
          have HAL := Lib.hid hal
          clear hA hal ej c9
          have hgw := heap_below HG.out hb
          have c0 := cell_of hgw 0
          have c1 := cell_of hgw 1
          have c2 := cell_of hgw 2
          have c3 := cell_of hgw 3
          have c4 := cell_of hgw 4
          have c5 := cell_of hgw 5
          have c6 := cell_of hgw 6
          have c7 := cell_of hgw 7
          simp [hcells] at c0 c1 c2 c3 c4 c5 c6 c7
          clear hgw
          go_wp2_with fail
          clear c0 c1 c2 c3 c4 c5 c6 c7
          have hz64 : all.length % 64 = 0 := by
            have h9 := HPL.out
            rw [EJ.out] at h9
            unfold Sha.zeros at h9
            have := HAL.out
            omega
          obtain ⟨a5, cap5, hv5, hel5⟩ := elems_of_owned byteV HO.out
          have hgv : (wr.alloc (.cells #[.int .u32 st.a, .int .u32 st.b, .int .u32 st.c, .int .u32 st.d, .int .u32 st.e, .int .u32 st.f, .int .u32 st.g, .int .u32 st.h] 349)).heap[wr.heap.size]? = some (.cells (w8c (Sha.blocksN st all 0)) 349 (0, 0)) := heap_alloc_new _ _
          have hbv := hb.alloc hsz (.cells #[.int .u32 st.a, .int .u32 st.b, .int .u32 st.c, .int .u32 st.d, .int .u32 st.e, .int .u32 st.f, .int .u32 st.g, .int .u32 st.h] 349)
          have hev : ElemsAt bytesS (wr.alloc (.cells #[.int .u32 st.a, .int .u32 st.b, .int .u32 st.c, .int .u32 st.d, .int .u32 st.e, .int .u32 st.f, .int .u32 st.g, .int .u32 st.h] 349)) a5 cap5 all := hel5.mono ((Below.refl _ _).alloc (Nat.le_refl _) _)
          have hnb : ∀ x, a5 = some x → x.block ≠ wr.heap.size := by
            rintro x rfl
            have := (HO.out.lt x.block (by rw [hv5]; rfl)).2
            omega
          obtain ⟨gv, hgvn⟩ : ∃ gv, gv = wr.heap.size := ⟨_, rfl⟩
          have hgw : Hid (w.heap.size ≤ gv) := by rw [hgvn]; exact hsz
          rw [← hgvn] at hgv hnb hsz ⊢
          have HGV := Lib.hid hgv
          have HBV := Lib.hid hbv
          have HEV := Lib.hid hev
          have HNB := Lib.hid hnb
          have HV5 := Lib.hid hv5
          clear hgv hbv hev hnb hv5 hel5 hgvn HO hb
          generalize wr.alloc (.cells #[.int .u32 st.a, .int .u32 st.b, .int .u32 st.c, .int .u32 st.d, .int .u32 st.e, .int .u32 st.f, .int .u32 st.g, .int .u32 st.h] 349) = wq at *
          go_loopg [3] (all.length / 64) (fun k v wr => ∃ (j : Nat) (a : Option Addr) (cap : Nat), j + k = all.length / 64 ∧ v = .slice a (all.length - 64 * j) cap ∧ Below w.heap.size w wr ∧ wr.heap[gv]? = some (.cells (w8c (Sha.blocksN st all j)) 349 (0, 0)) ∧
            ElemsAt bytesS wr a cap (all.drop (64 * j)) ∧ ∀ x, a = some x → x.block ≠ gv)
          case atStart => exact ⟨0, a5, cap5, by omega, by have := HV5.out; rw [HAL.out] at this ⊢; simpa using this, HBV.out, HGV.out, by simpa using HEV.out, HNB.out⟩
          case round =>
            clear HGV HBV HEV HNB HV5
            obtain ⟨i, a, cap, hi, rfl, hb, hg, he, hnb⟩ := hrel
            have hsz2 := hb.size
            have HG2 := Lib.hid hg
            have HB2 := Lib.hid hb
            have HE2 := Lib.hid he
            have HNB2 := Lib.hid hnb
            clear hg hb he hnb
            by_cases hik : i < all.length / 64
            · have hln : (all.drop (64 * i)).length = all.length - 64 * i := by simp
              obtain ⟨b, off, ha, hbl, _⟩ := HE2.out.byte (i := 0) (by omega)
              subst ha
              have hge : (0 : Int) < ((all.length - 64 * i : Nat) : Int) := by omega
              have hge2 : (64 : Int) ≤ ((all.length - 64 * i : Nat) : Int) := by omega
              have hfx : (Sha.blocksN st all i).Fit := Sha.blocksN_fit i all hfit
              have hmix : Hid (Sha.blocksN st all (i + 1) = Sha.mix (Sha.blocksN st all i) ((all.drop (64 * i)).take 64)) := Sha.blocksN_succ i st all
              have hl64 : ((all.drop (64 * i)).take 64).length = 64 := by simp; omega
              have HL64 := Lib.hid hl64
              have HFIT := Lib.hid hfx
              have heT := Lib.hid (HE2.out.take 64)
              generalize Sha.blocksN st all i = x at *
              clear hl64 hln hfx
              go_wp2_with fail
              refine region_pure_tail 4 (by kernel_rfl) (by kernel_rfl) fun I ne fw hfb hback => ?_
              simp only [List.take_succ_cons, List.take_zero, List.drop_succ_cons, List.drop_zero]
              have hcg : ∀ i k, (fw i).cell? ⟨gv, k, none⟩ = _ := fun i k => (hfb i).cell (lt_of_heap HG2.out)
              have d0 : ∀ i, (fw i).cell? ⟨gv, 0, none⟩ = some (.int .u32 x.a) := fun i => by rw [hcg, cell_of HG2.out]; rfl
              have d1 : ∀ i, (fw i).cell? ⟨gv, 1, none⟩ = some (.int .u32 x.b) := fun i => by rw [hcg, cell_of HG2.out]; rfl
              have d2 : ∀ i, (fw i).cell? ⟨gv, 2, none⟩ = some (.int .u32 x.c) := fun i => by rw [hcg, cell_of HG2.out]; rfl
              have d3 : ∀ i, (fw i).cell? ⟨gv, 3, none⟩ = some (.int .u32 x.d) := fun i => by rw [hcg, cell_of HG2.out]; rfl
              have d4 : ∀ i, (fw i).cell? ⟨gv, 4, none⟩ = some (.int .u32 x.e) := fun i => by rw [hcg, cell_of HG2.out]; rfl
              have d5 : ∀ i, (fw i).cell? ⟨gv, 5, none⟩ = some (.int .u32 x.f) := fun i => by rw [hcg, cell_of HG2.out]; rfl
              have d6 : ∀ i, (fw i).cell? ⟨gv, 6, none⟩ = some (.int .u32 x.g) := fun i => by rw [hcg, cell_of HG2.out]; rfl
              have d7 : ∀ i, (fw i).cell? ⟨gv, 7, none⟩ = some (.int .u32 x.h) := fun i => by rw [hcg, cell_of HG2.out]; rfl
              have hcap : (64 : Int) ≤ cap := by
                rcases HE2.out with ⟨h0, _⟩ | ⟨_, _, _, _, hlc, _⟩
                · have := congrArg List.length h0; simp at this; omega
                · simp at hlc; omega
              have hfb' := Lib.hid hfb
              clear hfb hcg
              repeat (quiet_step ((go_at_call 239; exact pure_of hfb'.out hback (mix_lit x HFIT.out b off cap ((all.drop (64 * i)).take 64) HL64.out _ (heT.out.mono (hfb'.out _))))))
              refine wpQuiet_nil ?_
              intro ii
              have hfi := hfb'.out ii
              have hg3 : (fw ii).heap[gv]? = _ := heap_below HG2.out hfi
              have he3 := Lib.hid (HE2.out.mono hfi)
              have hb3 := Lib.hid (HB2.out.trans (hfi.mono hsz2))
              generalize fw ii = w3 at *
              clear hfi hback hfb' d0 d1 d2 d3 d4 d5 d6 d7 HG2 HE2 HB2 heT
              have z0 := frozen_of hg3 0
              have z1 := frozen_of hg3 1
              have z2 := frozen_of hg3 2
              have z3 := frozen_of hg3 3
              have z4 := frozen_of hg3 4
              have z5 := frozen_of hg3 5
              have z6 := frozen_of hg3 6
              have z7 := frozen_of hg3 7
              have c0 := cell_of hg3 0
              have c1 := cell_of hg3 1
              have c2 := cell_of hg3 2
              have c3 := cell_of hg3 3
              have c4 := cell_of hg3 4
              have c5 := cell_of hg3 5
              have c6 := cell_of hg3 6
              have c7 := cell_of hg3 7
              simp [w8c] at c0 c1 c2 c3 c4 c5 c6 c7
              generalize hY : Sha.mix x ((all.drop (64 * i)).take 64) = y at *
              have HG3 := Lib.hid hg3
              clear hg3 HL64 HFIT hY
              have hcapn : 64 ≤ cap := by omega
              have hbg2 : b ≠ gv := HNB2.out ⟨b, off, none⟩ rfl
              by_cases hce : cap = 64
              · have hd : all.drop (64 * (i + 1)) = [] := by
                  rcases he3.out with ⟨h0, _⟩ | ⟨_, _, _, _, hlc, _⟩
                  · have := congrArg List.length h0; simp at this
                    apply List.drop_eq_nil_of_le; omega
                  · simp at hlc
                    apply List.drop_eq_nil_of_le; omega
                have HD := Lib.hid hd
                have hll : Hid (all.length - 64 * i - 64 = 0) := by have := congrArg List.length hd; simp at this; show _ = _; omega
                have hce' : ((cap : Nat) : Int) = 64 := by omega
                clear hd
                go_wp2_with fail
                go_roundg (gk - 1)
                case measure => omega
                case rel =>
                  refine ⟨i + 1, some ⟨b, off, none⟩, cap - 64, by omega, by first | (rw [show all.length - 64 * (i + 1) = all.length - 64 * i - 64 by omega]; done) | rw [show all.length - 64 * (i + 1) = all.length - 64 * i - 64 by omega, show cap - 64 = 0 by omega], ((((((((hb3.out.setCell (p := ⟨gv, 0, none⟩) hgw.out _).setCell (p := ⟨gv, 1, none⟩) hgw.out _).setCell (p := ⟨gv, 2, none⟩) hgw.out _).setCell (p := ⟨gv, 3, none⟩) hgw.out _).setCell (p := ⟨gv, 4, none⟩) hgw.out _).setCell (p := ⟨gv, 5, none⟩) hgw.out _).setCell (p := ⟨gv, 6, none⟩) hgw.out _).setCell (p := ⟨gv, 7, none⟩) hgw.out _), ?_, ?_, HNB2.out⟩
                  · rw [heap_setCell (heap_setCell (heap_setCell (heap_setCell (heap_setCell (heap_setCell (heap_setCell (heap_setCell HG3.out 0 _) 1 _) 2 _) 3 _) 4 _) 5 _) 6 _) 7 _, hmix.out]
                    simp [w8c]
                  · rw [HD.out]; exact .inl ⟨rfl, by have : maxLen = 9223372036854775807 := rfl; omega, by simp⟩
              · have hce' : (64 : Int) < cap := by omega
                go_wp2_with fail
                go_roundg (gk - 1)
                case measure => omega
                case rel =>
                  refine ⟨i + 1, some ⟨b, off + 64, none⟩, cap - 64, by omega, by first | (rw [show all.length - 64 * (i + 1) = all.length - 64 * i - 64 by omega]; done) | rw [show all.length - 64 * (i + 1) = all.length - 64 * i - 64 by omega, show cap - 64 = 0 by omega], ((((((((hb3.out.setCell (p := ⟨gv, 0, none⟩) hgw.out _).setCell (p := ⟨gv, 1, none⟩) hgw.out _).setCell (p := ⟨gv, 2, none⟩) hgw.out _).setCell (p := ⟨gv, 3, none⟩) hgw.out _).setCell (p := ⟨gv, 4, none⟩) hgw.out _).setCell (p := ⟨gv, 5, none⟩) hgw.out _).setCell (p := ⟨gv, 6, none⟩) hgw.out _).setCell (p := ⟨gv, 7, none⟩) hgw.out _), ?_, ?_, by rintro x e; cases e; exact hbg2⟩
                  · rw [heap_setCell (heap_setCell (heap_setCell (heap_setCell (heap_setCell (heap_setCell (heap_setCell (heap_setCell HG3.out 0 _) 1 _) 2 _) 3 _) 4 _) 5 _) 6 _) 7 _, hmix.out]
                    simp [w8c]
                  · have hd := he3.out.drop 64 (by simp; omega)
                    rw [List.drop_drop, show 64 * i + 64 = 64 * (i + 1) by omega] at hd
                    exact (ElemsAt.setCell (c := byteV) (ElemsAt.setCell (c := byteV) (ElemsAt.setCell (c := byteV) (ElemsAt.setCell (c := byteV) (ElemsAt.setCell (c := byteV) (ElemsAt.setCell (c := byteV) (ElemsAt.setCell (c := byteV) (ElemsAt.setCell (c := byteV) hd ⟨gv, 0, none⟩ (by rintro x e; cases e; exact hbg2) _) ⟨gv, 1, none⟩ (by rintro x e; cases e; exact hbg2) _) ⟨gv, 2, none⟩ (by rintro x e; cases e; exact hbg2) _) ⟨gv, 3, none⟩ (by rintro x e; cases e; exact hbg2) _) ⟨gv, 4, none⟩ (by rintro x e; cases e; exact hbg2) _) ⟨gv, 5, none⟩ (by rintro x e; cases e; exact hbg2) _) ⟨gv, 6, none⟩ (by rintro x e; cases e; exact hbg2) _) ⟨gv, 7, none⟩ (by rintro x e; cases e; exact hbg2) _)
            · have ei : i = all.length / 64 := by omega
              have hz0 : all.length - 64 * i = 0 := by omega
              have hblk : Hid (Sha.sum m = (Sha.blocksN st all i).bytes) := by
                show _ = _
                rw [Sha.sum_eq, HS.out, ← hall.out, ei]
                rfl
              have hfv : (Sha.blocksN st all i).Fit := Sha.blocksN_fit i all hfit
              generalize Sha.blocksN st all i = x at *
              have HZ := Lib.hid hz0
              have HFV := Lib.hid hfv
              have hz1 : ((all.length - 64 * i : Nat) : Int) ≤ 0 := by omega
              have hg := HG2.out
              have c0 := cell_of hg 0
              have c1 := cell_of hg 1
              have c2 := cell_of hg 2
              have c3 := cell_of hg 3
              have c4 := cell_of hg 4
              have c5 := cell_of hg 5
              have c6 := cell_of hg 6
              have c7 := cell_of hg 7
              simp [w8c] at c0 c1 c2 c3 c4 c5 c6 c7
              have hz3 : decide ((0 : Int) < ((all.length - 64 * i : Nat) : Int)) = false := decide_eq_false (by omega)
              have hz4 : decide (0 < all.length - 64 * i) = false := decide_eq_false (by omega)
              clear hg hz0 hfv ei
              go_wp2_with fail
              clear hz4 c0 c1 c2 c3 c4 c5 c6 c7 hz3 hz1
              go_loopg [6, 57] 8 (fun k v i wr => ∃ u : Nat, u + k = 8 ∧ i = .int .i64 u ∧ Below w.heap.size w wr ∧ wr.ownsRow w.heap.size 5 1 v (4 * u) (bytesV (x.bytes.take (4 * u))))
              case atStart => exact ⟨0, by omega, rfl, HB2.out, by simpa [bytesV] using World.ownsRow_nil _ _ _ _⟩
              case round =>
                clear HB2 HG2 HE2 HNB2 hsz2
                obtain ⟨u, hu, rfl, hb, hown⟩ := hrel
                have hsz2 := hb.size
                have HO := Lib.hid hown
                clear hown
                by_cases hu8 : u < 8
                · obtain ⟨n, hn, hsn⟩ := w8_word x u hu8
                  have hix : ∀ wz : World, (Instr.index 349 (.agg #[.int .u32 x.a, .int .u32 x.b, .int .u32 x.c, .int .u32 x.d, .int .u32 x.e, .int .u32 x.f, .int .u32 x.g, .int .u32 x.h]) (.int .i64 u)).run Tryz.prog wz = .ok (.int .u32 n) wz :=
                    fun wz => run_index_agg 349 252 8 Tryz.underlying252 Tryz.underlying349 (by kernel_rfl) _ rfl u _ hn wz
                  have hsn' : Hid (bytesV (x.bytes.take (4 * u)) ++ [.int .u8 ((n : Int) / 16777216 % 256), .int .u8 ((n : Int) / 65536 % 256), .int .u8 ((n : Int) / 256 % 256), .int .u8 ((n : Int) % 256)] = bytesV (x.bytes.take (4 * (u + 1)))) := by
                    show _ = _
                    rw [← be4_vals, hsn]; simp [bytesV]
                  clear hn hsn
                  go_wp2_with (at_builtin; refine wpList_append_lit rfl _ _ 187 rfl w.heap.size 5 (.int .u8 0) 1 Tryz.underlying187 info_byte rfl _ _ _ rfl HO.out _ 4 rfl rfl (by simp [Value.oneCell']) (by omega) (by decide) hsz2 ?_)
                  intro v3 w3 hown3 hgr3
                  have hb3 := below_append hb HO.out hgr3 hsz2 (Nat.le_refl _)
                  have hown4 : w3.ownsRow w.heap.size 5 1 v3 (4 * (u + 1)) (bytesV (x.bytes.take (4 * (u + 1)))) := by rw [← hsn'.out]; exact hown3
                  have HO4 := Lib.hid hown4
                  clear hown3 hgr3 hown4
                  go_wp2_with fail
                  go_roundg (gk - 1)
                  case measure => omega
                  case rel => exact ⟨u + 1, by omega, by go_num, hb3, HO4.out⟩
                · have eu : u = 8 := by omega
                  have hxb : x.bytes.length = 32 := by simp [Sha.W8.bytes, Sha.be4]
                  have hO := HO.out
                  rw [eu, show 4 * 8 = 32 from rfl, List.take_of_length_le (by omega)] at hO
                  obtain ⟨a6, cap6, hv6, he6⟩ := elems_of_owned byteV hO
                  rw [hxb] at hv6
                  obtain ⟨b6, off6, rfl, _, _⟩ := (show ElemsAt bytesS wr a6 cap6 x.bytes from he6).byte (i := 0) (by omega)
                  have hcv := run_convert_bytes_back (P := Tryz.prog) wr 187 9 5 ⟨b6, off6, none⟩ cap6 x.bytes Tryz.underlying187 Tryz.underlying5 Tryz.underlying9 (fun j hj => by
                    obtain ⟨b7, off7, e7, _, h7⟩ := (show ElemsAt bytesS wr (some ⟨b6, off6, none⟩) cap6 x.bytes from he6).byte hj
                    cases e7
                    have e8 : (⟨b6, off6, none⟩ : Addr).add j = ⟨b6, off6 + j, none⟩ := by cases j <;> simp [Addr.add]
                    rw [e8, h7]
                    simp [List.getD, List.getElem?_eq_getElem hj])
                  rw [hxb] at hcv
                  subst hv6
                  clear hO he6 hxb HO eu
                  go_wp2
                  go_ret
                  exact ⟨by rw [hblk.out]; rfl, hb⟩
end Go.Proofs.YtfdijpacbhomjaaGreatDoor
namespace Go.Proofs.YtfdijpacbhomjaaGreatDoor
open Go.RowKit
set_option maxRecDepth 100000 in
set_option maxHeartbeats 400000 in
theorem new_any (w : World) : Calls Tryz.prog 170 #[] w fun e w' => e = .returned (.pointer (some ⟨w.heap.size, 0, none⟩)) ∧ HashAt w.heap.size w' w.heap.size [] ∧ Below w.heap.size w w' := by
  go_enter Tryz.func170, Tryz.ntmps170
  go_wp2
  go_ret
  exact ⟨rfl, ⟨.slice none 0 0, Nat.le_refl _, heap_alloc_new _ _, World.ownsRow_nil _ _ _ _⟩, (Below.refl _ _).alloc (Nat.le_refl _) _⟩
def joined (ss : List ByteArray) : List UInt8 := ss.flatMap fun s => s.data.toList
theorem joined_take (ss : List ByteArray) (k : Nat) (hk : k < ss.length) : joined (ss.take (k + 1)) = joined (ss.take k) ++ ss[k].data.toList := by
  unfold joined
  rw [List.take_succ_eq_append_getElem hk, List.flatMap_append]
  simp only [List.flatMap_cons, List.flatMap_nil, List.append_nil]
theorem joined_le (ss : List ByteArray) (k : Nat) (hk : k < ss.length) : (joined (ss.take k)).length + ss[k].size ≤ (joined ss).length := by
  have h1 : joined ss = joined (ss.take (k + 1)) ++ joined (ss.drop (k + 1)) := by
    unfold joined
    rw [← List.flatMap_append, List.take_append_drop]
  have h2 := congrArg List.length h1
  rw [joined_take ss k hk] at h2
  simp only [List.length_append] at h2
  have h3 : ss[k].data.toList.length = ss[k].size := by rw [Array.length_toList]; rfl
  omega
set_option maxHeartbeats 400000 in
theorem shasum_any (v : Value) (ss : List ByteArray) (w : World) (hs : SliceOf strS w v ss) (hlen : ss.length ≤ maxLen) (hsz : (joined ss).length ≤ 140737488355200) :
    Calls Tryz.prog 101 #[v] w fun e w' => e = .returned (.string ⟨(Sha.sum (joined ss)).toArray⟩) ∧ Below w.heap.size w w' := by
  obtain ⟨a, cap, rfl, he⟩ := hs
  unfold maxLen at hlen
  have HE := Lib.hid he
  clear he
  go_enter Tryz.func101, Tryz.ntmps101
  go_wp2_with fail
  refine (new_any _).mono ?_
  rintro e w1 ⟨rfl, hh, hb⟩
  have HH := Lib.hid hh
  have HB := Lib.hid hb
  clear hh hb
  go_wp2_with fail
  go_loopw [9] (fun i wr => ∃ k : Nat, k ≤ ss.length ∧ i = .int .i64 k ∧ Below w.heap.size w wr ∧ HashAt w.heap.size wr w.heap.size (joined (ss.take k))) (fun i _ => ss.length - (intOf i).toNat)
  case atStart => exact ⟨0, Nat.zero_le _, rfl, HB.out, by simpa [joined] using HH.out⟩
  case round =>
    clear HH HB
    obtain ⟨k, hk, rfl, hb, hh⟩ := hrel
    have HH := Lib.hid hh
    have HB := Lib.hid hb
    have hsz0 := hb.size
    clear hh
    by_cases hlt : k < ss.length
    · obtain ⟨b, off, rfl, hbl, hc⟩ := (HE.out.mono hb).str hlt
      have hjl := joined_le ss k hlt
      clear hb
      go_wp2_with fail
      refine (write_any w.heap.size w.heap.size (joined (ss.take k)) ss[k] _ hsz0 (by omega) HH.out).mono ?_
      rintro e w2 ⟨rfl, hh2, hb2⟩
      have HH2 := Lib.hid hh2
      have HB2 := Lib.hid (HB.out.trans hb2)
      clear hh2 hb2 hjl
      go_wp2_with fail
      go_roundw
      case rel => exact ⟨k + 1, by omega, by go_num, HB2.out, by rw [joined_take ss k hlt]; exact HH2.out⟩
      case measure => simp [intOf]; omega
    · have ek : k = ss.length := by omega
      have hall : Hid (joined (ss.take k) = joined ss) := by show _ = _; rw [ek, List.take_length]
      clear hb ek
      go_wp2_with fail
      refine (hsum_any w.heap.size w.heap.size (joined (ss.take k)) _ (by rw [hall.out]; omega) HH.out).mono ?_
      rintro e w2 ⟨rfl, hb2⟩
      rw [hall.out]
      go_wp2_with fail
      go_ret
      exact ⟨rfl, HB.out.trans (hb2.mono hsz0)⟩
end Go.Proofs.YtfdijpacbhomjaaGreatDoor
namespace Go.Proofs.YtfdijpacbhomjaaGreatDoor.Sha
def key64 (k : Bytes) : Bytes := let k' := if 64 < k.length then sum k else k; k' ++ List.replicate (64 - k'.length) 0
def pad (k : Bytes) (m : UInt8) : Bytes := (key64 k).map (· ^^^ m)
def tag (k m : Bytes) : Bytes := sum (pad k 0x5c ++ sum (pad k 0x36 ++ m))
theorem key64_length (k : Bytes) : (key64 k).length = 64 := by
  unfold key64
  by_cases h : 64 < k.length
  · simp [h, sum_length]
  · simp [h]; omega
theorem pad_length (k : Bytes) (m : UInt8) : (pad k m).length = 64 := by simp [pad, key64_length]
theorem tag_length (k m : Bytes) : (tag k m).length = 32 := sum_length _
def parts (key info : Bytes) : Nat → Bytes × Bytes
  | 0 => ([], [])
  | i + 1 => let r := parts key info i; let t := tag key (r.1 ++ (info ++ [UInt8.ofNat (i + 1)])); (t, r.2 ++ t)
def expand (key info : Bytes) (n : Nat) : Bytes := (parts key info ((n + 31) / 32)).2.take n
theorem parts_length (key info : Bytes) : ∀ i, (parts key info i).2.length = 32 * i
  | 0 => rfl
  | i + 1 => by simp [parts, parts_length key info i, tag_length]; omega
def forBytes : Bytes := [115, 108, 101, 100, 103, 101, 32, 98, 121, 116, 101, 115]
def forTags : Bytes := [115, 108, 101, 100, 103, 101, 32, 116, 97, 103, 115]
def forHeads : Bytes := [115, 108, 101, 100, 103, 101, 32, 104, 101, 97, 100, 115]
def encKey (secret salt : Bytes) : Bytes := expand (tag salt secret) forBytes 32
def macKey (secret salt : Bytes) : Bytes := expand (tag salt secret) forTags 32
def headKey (secret : Bytes) : Bytes := expand (tag [] secret) forHeads 32
def fixed (n : Int) : Nat → Bytes
  | 0 => []
  | k + 1 => fixed (n / 256) k ++ [UInt8.ofNat (n % 256).toNat]
theorem fixed_length : ∀ (k : Nat) (n : Int), (fixed n k).length = k
  | 0, _ => rfl
  | k + 1, n => by simp [fixed, fixed_length k]
def width (w : Int) : Nat := (min (max w 1) 32).toNat
def msum (w : Int) (l : Bytes) : Bytes := (sum l).take (width w)
end Go.Proofs.YtfdijpacbhomjaaGreatDoor.Sha
namespace Go.Proofs.YtfdijpacbhomjaaGreatDoor
open Go.RowKit
theorem SliceOf.litS (w : World) (g : Nat) (hg : g = w.heap.size) (ss : List ByteArray) (T n : Nat) (hn : ss.length = n) (hm : n ≤ maxLen) (C : Array Value) (hC : C = (ss.map Value.string).toArray) :
    SliceOf strS (w.alloc (.cells C T)) (.slice (some ⟨g, 0, none⟩) n n) ss := by
  subst hC hn hg
  refine ⟨some ⟨w.heap.size, 0, none⟩, ss.length, rfl, .inr ⟨w.heap.size, 0, rfl, by simp, Nat.le_refl _, hm, fun i x hx => ⟨_, rfl, fun j c hj => ?_⟩⟩⟩
  cases j with
  | zero =>
    simp only [List.getElem?_cons_zero, Option.some.injEq] at hj
    subst hj
    simp [strS, Shape.flat, hx]
  | succ j => simp at hj
theorem wpList_copy_text {P : Program} {w : World} {ops : Array Oper} {rest : List Oper} {o : Oper} {a : Act} {Q : Exit → Act → World → Prop} (hgd : o.guard = none) (d s : Operand) (dT sT : TypeId)
    (ho : o.op = .call { callee := .builtin .copy, args := #[d, s], argTypes := #[dT, sT] }) (elem : TypeId) (hu : P.underlying dT = some (.slice elem)) (hsz : (P.info? elem).map (·.size) = some 1)
    (g off dLen dCap : Nat) (str : ByteArray) (hd : a.eval d = .slice (some ⟨g, off, none⟩) dLen dCap) (hs : a.eval s = .string str)
    (cur : Array Value) (t : TypeId) (hg : w.heap[g]? = some (.cells cur t (0, 0))) (hle : str.size ≤ dLen) (hfit : off + str.size ≤ cur.size)
    (h : ∀ wz, wz.heap[g]? = some (.cells (cur.toList.take off ++ bytesV str.data.toList ++ cur.toList.drop (off + str.size)).toArray t (0, 0)) → w.grownBy wz (some g) → wpList P ops Q rest (a.put o.dst (goInt str.size)) wz) :
    wpList P ops Q (o :: rest) a w := by
  refine wpList_plain hgd fun K hK => ?_
  have hr := Lib.run_copy_row_string (P := P) w dT sT o.type elem g off dLen dCap str cur t hu hsz hg hle hfit
  unfold Oper.wp execOp
  simp only [ho, resolve, invoke, builtin, Sem.run_bind, Sem.run_pure, Result.andThen_ok, List.map_toArray, List.map_cons, List.map_nil, hd, hs, hr]
  exact hK _ _ (h _ (setRow_heap _ _ _ _ _ _ hg) ⟨rfl, rfl, rfl, by simp [World.setRow], fun k _ hk => setRow_other w g k _ (fun e => hk (by simp [e]))⟩)
set_option maxRecDepth 100000 in
set_option maxHeartbeats 1000000 in
theorem pad_small (k : ByteArray) (m : UInt8) (w : World) (hk : k.size ≤ 64) :
    Calls Tryz.prog 235 #[.string k, .int .u8 m.toNat] w fun e w' => e = .returned (.string ⟨(Sha.pad k.data.toList m).toArray⟩) ∧ Below w.heap.size w w' := by
  have hk' : ¬ (64 : Int) < k.size := by omega
  go_enter Tryz.func235, Tryz.ntmps235
  go_wp2_with (refine wpList_copy_text rfl (.tmp 13) (.tmp 14) 187 9 rfl 5 Tryz.underlying187 (by kernel_rfl) w.heap.size 0 64 64 k rfl rfl _ _ (heap_alloc_new _ _) hk (by simpa using hk) ?_)
  intro w1 hg1 hgr1
  have hlen : k.data.toList.length = k.size := by rw [Array.length_toList]; rfl
  have hkey : Sha.key64 k.data.toList = k.data.toList ++ List.replicate (64 - k.size) 0 := by
    unfold Sha.key64
    simp only [hlen, show ¬ 64 < k.size by omega, if_false]
  have hg2 : w1.heap[w.heap.size]? = some (.cells (bytesV (Sha.key64 k.data.toList)).toArray 346 (0, 0)) := by
    rw [hg1, hkey]
    congr 2
    have e : ∀ L : List Value, L = List.replicate 64 (.int .u8 0) → (bytesV k.data.toList ++ List.drop k.size L).toArray = (bytesV (k.data.toList ++ List.replicate (64 - k.size) 0)).toArray := by
      rintro L rfl
      simp only [bytesV, List.map_append, List.map_replicate, List.drop_replicate]
      rfl
    exact e _ rfl
  have hb1 : Below w.heap.size w w1 := ((Below.refl w.heap.size w).alloc (Nat.le_refl _) _).grown hgr1 (by simp) (fun k hk => by cases hk; exact Nat.le_refl _)
  have hkl : (Sha.key64 k.data.toList).length = 64 := Sha.key64_length _
  have hA : (bytesV (Sha.pad k.data.toList m)) = (Sha.key64 k.data.toList).map fun b => byteV (b ^^^ m) := by simp [bytesV, Sha.pad]
  generalize hK : Sha.key64 k.data.toList = K at *
  generalize hP : Sha.pad k.data.toList m = pd at *
  have hpl : pd.length = 64 := by rw [← hP]; exact Sha.pad_length _ _
  have HG := Lib.hid hg2
  have HB := Lib.hid hb1
  have HA := Lib.hid hA
  have HKL := Lib.hid hkl
  have HPL := Lib.hid hpl
  have HPD := Lib.hid hP
  clear hg1 hgr1 hlen hkey hg2 hb1 hK hP hA hkl hpl
  go_wp2_with fail
  go_loopw [16] (fun i wr => ∃ t : Nat, t ≤ 64 ∧ i = .int .i64 t ∧ Below w.heap.size w wr ∧ wr.heap[w.heap.size]? = some (.cells ((bytesV pd).take t ++ (bytesV K).drop t).toArray 346 (0, 0))) (fun i _ => 64 - (intOf i).toNat)
  case atStart => exact ⟨0, by omega, rfl, HB.out, by simpa using HG.out⟩
  case round =>
    clear HG HB
    obtain ⟨t, ht, rfl, hb, hg⟩ := hrel
    have HG := Lib.hid hg
    have HB := Lib.hid hb
    clear hb
    by_cases hlt : t < 64
    · have hbl : (bytesV pd).length = (bytesV K).length := by simp [bytesV, HKL.out, HPL.out]
      have hkt : t < K.length := by rw [HKL.out]; exact hlt
      have hkb : (bytesV K)[t]? = some (.int .u8 (K[t].toNat : Nat)) := by simp [bytesV, hkt, byteV]
      have hpb : (bytesV pd)[t]? = some (.int .u8 ((K[t].toNat ^^^ m.toNat : Nat) : Int)) := by
        rw [HA.out]; simp [hkt, byteV, UInt8.toNat_xor]
      have c := cell_of hg t
      rw [blend_get _ _ _ hbl (by simp [bytesV, HPL.out]; omega), hkb] at c
      have z := frozen_of hg t
      have hx := u8_xor_nat K[t].toNat m.toNat K[t].toNat_lt m.toNat_lt
      generalize K[t].toNat = kb at *
      have HBL := Lib.hid hbl
      have HPB := Lib.hid hpb
      have hlt' : (t : Int) < 64 := by omega
      clear hg hbl hkb hpb hkt
      go_wp2
      go_roundw
      case rel =>
        refine ⟨t + 1, by omega, by go_num, HB.out.setCell (Nat.le_refl _) _, ?_⟩
        rw [heap_setCell HG.out, blend_set _ _ _ HBL.out _ HPB.out]
      case measure => simp [intOf]; omega
    · have et : t = 64 := by omega
      rw [et, List.take_of_length_le (by simp [bytesV, HPL.out]), List.drop_of_length_le (by simp [bytesV, HKL.out]), List.append_nil] at hg
      have hcv := run_convert_bytes_back (P := Tryz.prog) wr 187 9 5 ⟨w.heap.size, 0, none⟩ 64 pd Tryz.underlying187 Tryz.underlying5 Tryz.underlying9 (fun j hj => by
        rw [cells_add hg]; simp [bytesV, byteV, hj])
      rw [HPL.out] at hcv
      clear hg et
      go_wp2
      go_ret
      exact ⟨by rw [HPD.out]; rfl, HB.out⟩
set_option maxRecDepth 100000 in
set_option maxHeartbeats 1000000 in
theorem pad_big (k : ByteArray) (m : UInt8) (w : World) (hk : 64 < k.size) (hk2 : k.size ≤ 140737488355200) :
    Calls Tryz.prog 235 #[.string k, .int .u8 m.toNat] w fun e w' => e = .returned (.string ⟨(Sha.pad k.data.toList m).toArray⟩) ∧ Below w.heap.size w w' := by
  have hk' : (64 : Int) < k.size := by omega
  have hkl0 : k.data.toList.length = k.size := by rw [Array.length_toList]; rfl
  have hj : joined [k] = k.data.toList := by simp [joined]
  obtain ⟨str, hstr⟩ : ∃ str : ByteArray, str = ⟨(Sha.sum k.data.toList).toArray⟩ := ⟨_, rfl⟩
  have hsz : str.size = 32 := by rw [hstr]; show (Sha.sum k.data.toList).toArray.size = 32; simp [Sha.sum_length]
  have hsd : str.data.toList = Sha.sum k.data.toList := by rw [hstr]
  have HSTR := Lib.hid hstr
  have HSZ := Lib.hid hsz
  have HSD := Lib.hid hsd
  have HJ := Lib.hid hj
  have HKL0 := Lib.hid hkl0
  clear hstr hsz hsd hj hkl0
  go_enter Tryz.func235, Tryz.ntmps235
  go_wp2_with fail
  refine (shasum_any (.slice (some ⟨w.heap.size + 1, 0, none⟩) 1 1) [k] _ (SliceOf.litS _ _ (by simp) [k] 9 1 rfl (by decide) #[.string k] rfl) (by simp [maxLen]) (by rw [HJ.out, HKL0.out]; exact hk2)).mono ?_
  rintro e w0 ⟨rfl, hb0⟩
  rw [HJ.out, ← HSTR.out]
  have hg0 : w0.heap[w.heap.size]? = some (.cells (List.replicate 64 (.int .u8 0)).toArray 346 (0, 0)) := heap_below (heap_alloc_old (heap_alloc_new _ _)) hb0
  have hbw : Below w.heap.size w w0 := (((Below.refl w.heap.size w).alloc (Nat.le_refl _) _).alloc (by simp) _).trans (hb0.mono (by simp; omega))
  have HG0 := Lib.hid hg0
  have HBW := Lib.hid hbw
  clear hg0 hbw hb0
  go_wp2_with (refine wpList_copy_text rfl (.tmp 13) (.tmp 14) 187 9 rfl 5 Tryz.underlying187 (by kernel_rfl) w.heap.size 0 64 64 str rfl rfl _ _ HG0.out (by rw [HSZ.out]; decide) (by rw [HSZ.out]; decide) ?_)
  intro w1 hg1 hgr1
  have hkey : Sha.key64 k.data.toList = str.data.toList ++ List.replicate (64 - str.size) 0 := by
    unfold Sha.key64
    simp only [HKL0.out, show 64 < k.size by omega, if_true]
    rw [HSD.out, Sha.sum_length, HSZ.out]
  have hg2 : w1.heap[w.heap.size]? = some (.cells (bytesV (Sha.key64 k.data.toList)).toArray 346 (0, 0)) := by
    rw [hg1, hkey]
    congr 2
    have e : ∀ L : List Value, L = List.replicate 64 (.int .u8 0) → (bytesV str.data.toList ++ List.drop str.size L).toArray = (bytesV (str.data.toList ++ List.replicate (64 - str.size) 0)).toArray := by
      rintro L rfl
      simp only [bytesV, List.map_append, List.map_replicate, List.drop_replicate]
      rfl
    exact e _ rfl
  have hb1 : Below w.heap.size w w1 := HBW.out.grown hgr1 HBW.out.size (fun k hk => by cases hk; exact Nat.le_refl _)
  have hkl : (Sha.key64 k.data.toList).length = 64 := Sha.key64_length _
  have hA : (bytesV (Sha.pad k.data.toList m)) = (Sha.key64 k.data.toList).map fun b => byteV (b ^^^ m) := by simp [bytesV, Sha.pad]
  generalize hK : Sha.key64 k.data.toList = K at *
  generalize hP : Sha.pad k.data.toList m = pd at *
  have hpl : pd.length = 64 := by rw [← hP]; exact Sha.pad_length _ _
  have HG := Lib.hid hg2
  have HB := Lib.hid hb1
  have HA := Lib.hid hA
  have HKL := Lib.hid hkl
  have HPL := Lib.hid hpl
  have HPD := Lib.hid hP
  clear hg1 hgr1 hkey hg2 hb1 hK hP hA hkl hpl
  go_wp2_with fail
  go_loopw [16] (fun i wr => ∃ t : Nat, t ≤ 64 ∧ i = .int .i64 t ∧ Below w.heap.size w wr ∧ wr.heap[w.heap.size]? = some (.cells ((bytesV pd).take t ++ (bytesV K).drop t).toArray 346 (0, 0))) (fun i _ => 64 - (intOf i).toNat)
  case atStart => exact ⟨0, by omega, rfl, HB.out, by simpa using HG.out⟩
  case round =>
    clear HG HB
    obtain ⟨t, ht, rfl, hb, hg⟩ := hrel
    have HG := Lib.hid hg
    have HB := Lib.hid hb
    clear hb
    by_cases hlt : t < 64
    · have hbl : (bytesV pd).length = (bytesV K).length := by simp [bytesV, HKL.out, HPL.out]
      have hkt : t < K.length := by rw [HKL.out]; exact hlt
      have hkb : (bytesV K)[t]? = some (.int .u8 (K[t].toNat : Nat)) := by simp [bytesV, hkt, byteV]
      have hpb : (bytesV pd)[t]? = some (.int .u8 ((K[t].toNat ^^^ m.toNat : Nat) : Int)) := by
        rw [HA.out]; simp [hkt, byteV, UInt8.toNat_xor]
      have c := cell_of hg t
      rw [blend_get _ _ _ hbl (by simp [bytesV, HPL.out]; omega), hkb] at c
      have z := frozen_of hg t
      have hx := u8_xor_nat K[t].toNat m.toNat K[t].toNat_lt m.toNat_lt
      generalize K[t].toNat = kb at *
      have HBL := Lib.hid hbl
      have HPB := Lib.hid hpb
      have hlt' : (t : Int) < 64 := by omega
      clear hg hbl hkb hpb hkt
      go_wp2
      go_roundw
      case rel =>
        refine ⟨t + 1, by omega, by go_num, HB.out.setCell (Nat.le_refl _) _, ?_⟩
        rw [heap_setCell HG.out, blend_set _ _ _ HBL.out _ HPB.out]
      case measure => simp [intOf]; omega
    · have et : t = 64 := by omega
      rw [et, List.take_of_length_le (by simp [bytesV, HPL.out]), List.drop_of_length_le (by simp [bytesV, HKL.out]), List.append_nil] at hg
      have hcv := run_convert_bytes_back (P := Tryz.prog) wr 187 9 5 ⟨w.heap.size, 0, none⟩ 64 pd Tryz.underlying187 Tryz.underlying5 Tryz.underlying9 (fun j hj => by
        rw [cells_add hg]; simp [bytesV, byteV, hj])
      rw [HPL.out] at hcv
      clear hg et
      go_wp2
      go_ret
      exact ⟨by rw [HPD.out]; rfl, HB.out⟩
theorem pad_any (k : ByteArray) (m : UInt8) (w : World) (hk2 : k.size ≤ 140737488355200) :
    Calls Tryz.prog 235 #[.string k, .int .u8 m.toNat] w fun e w' => e = .returned (.string ⟨(Sha.pad k.data.toList m).toArray⟩) ∧ Below w.heap.size w w' := by
  by_cases hk : k.size ≤ 64
  · exact pad_small k m w hk
  · exact pad_big k m w (by omega) hk2
end Go.Proofs.YtfdijpacbhomjaaGreatDoor
namespace Go.Proofs.YtfdijpacbhomjaaGreatDoor
open Go.RowKit
set_option maxRecDepth 100000 in
set_option maxHeartbeats 1000000 in
theorem tag_any (k : ByteArray) (v : Value) (ss : List ByteArray) (w : World) (hs : SliceOf strS w v ss) (hk : k.size ≤ 140737488355200) (hlen : ss.length ≤ maxLen) (hsz : (joined ss).length ≤ 140737488355000) :
    Calls Tryz.prog 166 #[.string k, v] w fun e w' => e = .returned (.string (str (Sha.tag k.data.toList (joined ss)))) ∧ Below w.heap.size w w' := by
  obtain ⟨a, cap, rfl, he⟩ := hs
  unfold maxLen at hlen
  have HE := Lib.hid he
  clear he
  go_enter Tryz.func166, Tryz.ntmps166
  go_wp2_with fail
  refine (new_any _).mono ?_
  rintro e w1 ⟨rfl, hh, hb⟩
  have HH := Lib.hid hh
  have HB := Lib.hid hb
  clear hh hb
  go_wp2_with fail
  refine (pad_any k 54 _ hk).mono ?_
  rintro e w2 ⟨rfl, hb2⟩
  have hw1 := HB.out.size
  have HH2 := Lib.hid (HH.out.below hb2)
  have HB2 := Lib.hid (HB.out.trans (hb2.mono hw1))
  clear HH HB hb2
  have hp54 : (Sha.pad k.data.toList 54).length = 64 := Sha.pad_length _ _
  have HP := Lib.hid hp54
  clear hp54
  go_wp2_with fail
  refine (write_any w.heap.size w.heap.size [] (str (Sha.pad k.data.toList 54)) _ HB2.out.size (by rw [str_size, HP.out]; decide) HH2.out).mono ?_
  rintro e w3 ⟨rfl, hh3, hb3⟩
  rw [List.nil_append, str_data] at hh3
  have HH3 := Lib.hid hh3
  have HB3 := Lib.hid (HB2.out.trans hb3)
  clear hh3 hb3 HH2 HB2
  go_wp2_with fail
  go_loopw [15] (fun i wr => ∃ n : Nat, n ≤ ss.length ∧ i = .int .i64 n ∧ Below w.heap.size w wr ∧ HashAt w.heap.size wr w.heap.size (Sha.pad k.data.toList 54 ++ joined (ss.take n))) (fun i _ => ss.length - (intOf i).toNat)
  case atStart => exact ⟨0, Nat.zero_le _, rfl, HB3.out, by simpa [joined] using HH3.out⟩
  case round =>
    clear HH3 HB3
    obtain ⟨n, hn, rfl, hb, hh⟩ := hrel
    have HH := Lib.hid hh
    have HB := Lib.hid hb
    have hsz0 := hb.size
    clear hh
    by_cases hlt : n < ss.length
    · obtain ⟨b, off, rfl, hbl, hc⟩ := (HE.out.mono hb).str hlt
      have hjl := joined_le ss n hlt
      clear hb
      go_wp2_with fail
      refine (write_any w.heap.size w.heap.size (Sha.pad k.data.toList 54 ++ joined (ss.take n)) ss[n] _ hsz0 (by rw [List.length_append, HP.out]; omega) HH.out).mono ?_
      rintro e w4 ⟨rfl, hh4, hb4⟩
      have HH4 := Lib.hid hh4
      have HB4 := Lib.hid (HB.out.trans hb4)
      clear hh4 hb4 hjl
      go_wp2_with fail
      go_roundw
      case rel => exact ⟨n + 1, by omega, by go_num, HB4.out, by rw [joined_take ss n hlt, ← List.append_assoc]; exact HH4.out⟩
      case measure => simp [intOf]; omega
    · have en : n = ss.length := by omega
      have hall : Hid (joined (ss.take n) = joined ss) := by show _ = _; rw [en, List.take_length]
      clear hb en
      go_wp2_with fail
      refine (pad_any k 92 _ hk).mono ?_
      rintro e w4 ⟨rfl, hb4⟩
      have HH4 := Lib.hid (HH.out.below hb4)
      have HB4 := Lib.hid (HB.out.trans (hb4.mono hsz0))
      have hsz4 := HB4.out.size
      clear hb4 HH HB
      go_wp2_with fail
      refine (hsum_any w.heap.size w.heap.size (Sha.pad k.data.toList 54 ++ joined (ss.take n)) _ (by rw [hall.out, List.length_append, HP.out]; omega) HH4.out).mono ?_
      rintro e w5 ⟨rfl, hb5⟩
      rw [hall.out]
      have HB5 := Lib.hid (HB4.out.trans (hb5.mono hsz4))
      have hsz5 := HB5.out.size
      clear hb5 HH4 HB4
      have hp92 : (Sha.pad k.data.toList 92).length = 64 := Sha.pad_length _ _
      have hsl : (Sha.sum (Sha.pad k.data.toList 54 ++ joined ss)).length = 32 := Sha.sum_length _
      have hj : joined [str (Sha.pad k.data.toList 92), str (Sha.sum (Sha.pad k.data.toList 54 ++ joined ss))] = Sha.pad k.data.toList 92 ++ Sha.sum (Sha.pad k.data.toList 54 ++ joined ss) := by simp [joined, str]
      have HJ := Lib.hid hj
      have HJL := Lib.hid (show (joined [str (Sha.pad k.data.toList 92), str (Sha.sum (Sha.pad k.data.toList 54 ++ joined ss))]).length ≤ 140737488355200 by rw [hj, List.length_append, hp92, hsl]; decide)
      clear hj hp92 hsl
      go_wp2_with fail
      refine (shasum_any (.slice (some ⟨w5.heap.size, 0, none⟩) 2 2) [str (Sha.pad k.data.toList 92), str (Sha.sum (Sha.pad k.data.toList 54 ++ joined ss))] _ (SliceOf.litS _ _ rfl _ 9 2 rfl (by decide) _ rfl) (by simp [maxLen]) HJL.out).mono ?_
      rintro e w6 ⟨rfl, hb6⟩
      rw [HJ.out]
      go_wp2_with fail
      go_ret
      exact ⟨rfl, HB5.out.trans (((Below.refl w.heap.size w5).alloc hsz5 _).trans (hb6.mono (by simp; omega)))⟩
end Go.Proofs.YtfdijpacbhomjaaGreatDoor
