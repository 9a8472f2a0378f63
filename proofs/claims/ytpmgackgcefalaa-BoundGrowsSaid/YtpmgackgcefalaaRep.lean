/-
  How values in memory read as plain Lean data: an element of so many cells, a slice of such elements; and how this stays while nothing old is turned.
-/
import Derived.Test.YtpmgackgcefalaaLaw
namespace Go.Proofs.Ytpmgackgcefalaa
open Go.ChangeShapes Go.WideShapes Go.ChangeAt Go.RowKit

/-- How data of a type lie in 'n' cells; a reading stays where no old block has turned. -/
structure Shape (α : Type) where
  n : Nat
  rep : World → List Value → α → Prop
  len : ∀ {w : World} {cs : List Value} {a : α}, rep w cs a → cs.length = n
  mono : ∀ {w w' : World} {cs : List Value} {a : α}, rep w cs a → Below w.heap.size w w' → rep w' cs a

/-- Data whose cells say all (no memory behind them). -/
def Shape.flat {α : Type} (n : Nat) (cells : α → List Value) (h : ∀ a, (cells a).length = n) : Shape α :=
  { n := n, rep := fun _ cs a => cs = cells a, len := fun e => by rw [e]; exact h _, mono := fun h _ => h }

/-- The elements of a slice: they lie one behind the other from an address on. -/
def ElemsAt {α : Type} (S : Shape α) (w : World) (a : Option Addr) (cap : Nat) (xs : List α) : Prop :=
  (xs = [] ∧ cap ≤ maxLen) ∨ ∃ b off, a = some ⟨b, off, none⟩ ∧ b < w.heap.size ∧ xs.length ≤ cap ∧ cap ≤ maxLen ∧
    ∀ (i : Nat) (x : α), xs[i]? = some x → ∃ cs, S.rep w cs x ∧ ∀ j c, cs[j]? = some c → w.cell? ⟨b, off + i * S.n + j, none⟩ = some c

theorem ElemsAt.mono {α : Type} {S : Shape α} {w w' : World} {a : Option Addr} {cap : Nat} {xs : List α} (h : ElemsAt S w a cap xs) (hb : Below w.heap.size w w') : ElemsAt S w' a cap xs := by
  rcases h with h | ⟨b, off, rfl, hlt, hl, hm, hc⟩
  · exact .inl h
  · refine .inr ⟨b, off, rfl, Nat.lt_of_lt_of_le hlt hb.size, hl, hm, fun i x hx => ?_⟩
    obtain ⟨cs, h1, h2⟩ := hc i x hx
    exact ⟨cs, S.mono h1 hb, fun j c hj => by rw [hb.cell (p := ⟨b, off + i * S.n + j, none⟩) hlt]; exact h2 j c hj⟩

/-- A slice value reads as a list. -/
def SliceOf {α : Type} (S : Shape α) (w : World) (v : Value) (xs : List α) : Prop := ∃ a cap, v = .slice a xs.length cap ∧ ElemsAt S w a cap xs

theorem SliceOf.mono {α : Type} {S : Shape α} {w w' : World} {v : Value} {xs : List α} (h : SliceOf S w v xs) (hb : Below w.heap.size w w') : SliceOf S w' v xs := by
  obtain ⟨a, cap, rfl, he⟩ := h
  exact ⟨a, cap, rfl, he.mono hb⟩

theorem SliceOf.nil {α : Type} (S : Shape α) (w : World) : SliceOf S w (.slice none 0 0) [] := ⟨none, 0, rfl, .inl ⟨rfl, Nat.zero_le _⟩⟩

def Shape.slice {α : Type} (S : Shape α) : Shape (List α) :=
  { n := 1, rep := fun w cs xs => ∃ v, cs = [v] ∧ SliceOf S w v xs, len := fun ⟨_, e, _⟩ => by rw [e]; rfl, mono := fun ⟨v, e, h⟩ hb => ⟨v, e, h.mono hb⟩ }

/-- The cells of element i, where the slice has one. -/
theorem ElemsAt.at {α : Type} {S : Shape α} {w : World} {a : Option Addr} {cap : Nat} {xs : List α} (h : ElemsAt S w a cap xs) {i : Nat} (hi : i < xs.length) :
    ∃ b off, a = some ⟨b, off, none⟩ ∧ b < w.heap.size ∧ ∃ cs, S.rep w cs xs[i] ∧ ∀ j c, cs[j]? = some c → w.cell? ⟨b, off + i * S.n + j, none⟩ = some c := by
  rcases h with ⟨rfl, _⟩ | ⟨b, off, rfl, hlt, _, _, hc⟩
  · simp at hi
  · exact ⟨b, off, rfl, hlt, hc i _ (List.getElem?_eq_getElem hi)⟩

/-- What is owned reads as it was laid. -/
theorem SliceOf.owned {α : Type} {S : Shape α} {w : World} {base e n : Nat} {v : Value} {css : List Value} {xs : List α} (h : w.ownsRow base e S.n v n css) (hn : n = xs.length) (hpos : 0 < S.n)
    (hr : ∀ (i : Nat) (x : α), xs[i]? = some x → ∃ cs, S.rep w cs x ∧ ∀ j c, cs[j]? = some c → css[i * S.n + j]? = some c) : SliceOf S w v xs := by
  subst hn
  obtain ⟨hl, h⟩ := h
  rcases h with ⟨rfl, h0⟩ | ⟨g, cap, cur, rfl, hb, hg, hc, hm, hs, ht⟩
  · have : xs = [] := List.length_eq_zero_iff.1 h0
    subst this
    exact SliceOf.nil S w
  · refine ⟨some ⟨g, 0, none⟩, cap, rfl, .inr ⟨g, 0, rfl, ?_, hc, hm, fun i x hx => ?_⟩⟩
    · have : w.heap[g]? ≠ none := by rw [hg]; simp
      simpa using this
    · obtain ⟨cs, h1, h2⟩ := hr i x hx
      refine ⟨cs, h1, fun j c hj => ?_⟩
      have h3 := h2 j c hj
      rw [← ht] at h3
      rw [List.getElem?_take] at h3
      split at h3
      · simp [World.cell?, hg]
        simpa using h3
      · cases h3

theorem ownsRow_below {w w' : World} {base e size n : Nat} {v : Value} {xs : List Value} (h : w.ownsRow base e size v n xs) (hb : Below w.heap.size w w') : w'.ownsRow base e size v n xs := by
  obtain ⟨h1, h2⟩ := h
  refine ⟨h1, ?_⟩
  rcases h2 with h2 | ⟨g, cap, cur, hv, hg, hh, r⟩
  · exact Or.inl h2
  · refine Or.inr ⟨g, cap, cur, hv, hg, ?_, r⟩
    have : g < w.heap.size := by
      have : w.heap[g]? ≠ none := by rw [hh]; simp
      simpa using this
    rw [hb.block g this]; exact hh

theorem ownsRow_base {w : World} {base base' e size n : Nat} {v : Value} {xs : List Value} (h : w.ownsRow base e size v n xs) (hb : base' ≤ base) : w.ownsRow base' e size v n xs := by
  obtain ⟨h1, h2⟩ := h
  refine ⟨h1, ?_⟩
  rcases h2 with h2 | ⟨g, cap, cur, hv, hg, r⟩
  · exact Or.inl h2
  · exact Or.inr ⟨g, cap, cur, hv, Nat.le_trans hb hg, r⟩

/-- 'append(s, x)' of one element, in whatever number of cells, to a slice that the call owns. -/
theorem wpList_append_elem {P : Program} {w : World} {ops : Array Oper} {rest : List Oper} {o : Oper} {a : Act} {Q : Exit → Act → World → Prop} (hgd : o.guard = none) (s x : Operand) (t : TypeId)
    (ho : o.op = .call { callee := .builtin .append, args := #[s, x], argTypes := #[t, t] })
    (base e : Nat) (z : Value) (size bytes : Nat) (ht : P.underlying t = some (.slice e)) (hi : (P.info? e).map (fun i => (i.zero, i.size, i.bytes)) = some (some z, size, bytes))
    (hzs : z.cells.size = size) (hsz : 0 < size) (v : Value) (n : Nat) (xs : List Value) (hs : a.eval s = v) (hown : w.ownsRow base e size v n xs)
    (C : Array Value) (hx : a.eval x = .slice (some ⟨w.heap.size, 0, none⟩) 1 1) (hl : C.size = size) (h1 : ∀ u ∈ C.toList, u.oneCell' = true)
    (hbytes : (n + 1) * bytes ≤ 140737488355328) (hby : 0 < bytes) (hbase : base ≤ w.heap.size)
    (h : ∀ v' w', w'.ownsRow base e size v' (n + 1) (xs ++ C.toList) → (w.alloc (.cells C e)).grownBy w' v.ownBlock → wpList P ops Q rest (a.put o.dst v') w') :
    wpList P ops Q (o :: rest) a (w.alloc (.cells C e)) := by
  obtain ⟨i, hi, hz, hsize, hbs⟩ := info_parts hi
  refine wpList_append_own _ hgd s x t ho base e i z size bytes ht hi hz hsize hbs hzs hsz v n xs hs (hown.alloc _) ⟨w.heap.size, 0, none⟩ 1 1 C.toList hx (by simpa using hl) ?_ h1 ?_ hbytes (by simp; omega) (fun v' w' h2 h3 _ => h v' w' h2 h3)
  · intro j u hj
    have e : (⟨w.heap.size, 0, none⟩ : Addr).add j = ⟨w.heap.size, j, none⟩ := by cases j <;> simp [Addr.add]
    rw [e, World.cell?_alloc_new]
    simpa using hj
  · have : n + 1 ≤ (n + 1) * bytes := Nat.le_mul_of_pos_right _ hby
    simp only [maxLen]; omega

/-- What an append of the call's own leaves of the rest of memory. -/
theorem below_append {B : Nat} {W w w' : World} {o : Obj} {v : Value} {base e size n : Nat} {xs : List Value} (h : Below B W w) (hown : w.ownsRow base e size v n xs) (hg : (w.alloc o).grownBy w' v.ownBlock) (hB : B ≤ w.heap.size) (hb : B ≤ base) : Below B W w' :=
  (h.alloc hB o).grown hg (by simp; omega) (fun k hk => Nat.le_trans hb (hown.lt k hk).1)

def intS : Shape Int := Shape.flat 1 (fun n => [.int .i64 n]) (fun _ => rfl)
def strS : Shape ByteArray := Shape.flat 1 (fun s => [.string s]) (fun _ => rfl)

theorem SliceOf.ints {w : World} {base e n : Nat} {v : Value} {zs : List Int} (h : w.ownsRow base e 1 v n (zs.map (Value.int .i64))) : SliceOf intS w v zs := by
  have hn : n = zs.length := by have := h.1; simp at this; omega
  refine SliceOf.owned (S := intS) h hn (by decide) fun i x hx => ⟨_, rfl, fun j c hj => ?_⟩
  cases j with
  | zero => simp [intS, Shape.flat, hx] at hj ⊢; exact hj
  | succ j => simp at hj

theorem SliceOf.strs {w : World} {base e n : Nat} {v : Value} {ss : List ByteArray} (h : w.ownsRow base e 1 v n (ss.map Value.string)) : SliceOf strS w v ss := by
  have hn : n = ss.length := by have := h.1; simp at this; omega
  refine SliceOf.owned (S := strS) h hn (by decide) fun i x hx => ⟨_, rfl, fun j c hj => ?_⟩
  cases j with
  | zero => simp [strS, Shape.flat, hx] at hj ⊢; exact hj
  | succ j => simp at hj

theorem ElemsAt.int {w : World} {a : Option Addr} {cap : Nat} {zs : List Int} (h : ElemsAt intS w a cap zs) {i : Nat} (hi : i < zs.length) :
    ∃ b off, a = some ⟨b, off, none⟩ ∧ b < w.heap.size ∧ w.cell? ⟨b, off + i, none⟩ = some (.int .i64 zs[i]) := by
  obtain ⟨b, off, rfl, hb, cs, rfl, hc⟩ := h.at hi
  exact ⟨b, off, rfl, hb, by simpa [intS, Shape.flat] using hc 0 _ rfl⟩

theorem ElemsAt.str {w : World} {a : Option Addr} {cap : Nat} {ss : List ByteArray} (h : ElemsAt strS w a cap ss) {i : Nat} (hi : i < ss.length) :
    ∃ b off, a = some ⟨b, off, none⟩ ∧ b < w.heap.size ∧ w.cell? ⟨b, off + i, none⟩ = some (.string ss[i]) := by
  obtain ⟨b, off, rfl, hb, cs, rfl, hc⟩ := h.at hi
  exact ⟨b, off, rfl, hb, by simpa [strS, Shape.flat] using hc 0 _ rfl⟩

/-! ### What came in as an argument -/
section
variable {H : Type} {enc : TypeId × Value → H} {P : Program} {w : World}

theorem mapM_get {α β : Type} {f : α → Option β} : ∀ {l : List α} {r : List β}, l.mapM f = some r → r.length = l.length ∧ ∀ i (h : i < l.length), f l[i] = r[i]?
  | [], r, h => by
    simp only [List.mapM_nil, Option.pure_def, Option.some.injEq] at h
    subst h
    exact ⟨rfl, fun i h => by simp at h⟩
  | a :: l, r, h => by
    simp only [List.mapM_cons, Option.pure_def, Option.bind_eq_bind, Option.bind_eq_some_iff] at h
    obtain ⟨b, hb, r', hr, he⟩ := h
    simp only [Option.some.injEq] at he
    subst he
    obtain ⟨h1, h2⟩ := mapM_get hr
    refine ⟨by simp [h1], fun i hi => ?_⟩
    cases i with
    | zero => simpa using hb
    | succ i => simpa using h2 i (by simpa using hi)

theorem cells?_get {base : Nat} {a : Addr} {n : Nat} {cs : List Value} (h : w.cells? base a n = some cs) : cs.length = n ∧ ∀ j c, cs[j]? = some c → w.cell? (a.add j) = some c := by
  unfold World.cells? at h
  split at h
  · obtain ⟨h1, h2⟩ := mapM_get h
    refine ⟨by simpa using h1, fun j c hj => ?_⟩
    have hlt : j < cs.length := by
      have := List.getElem?_eq_some_iff.1 hj
      exact this.1
    have := h2 j (by simpa [h1] using hlt)
    simp at this
    rw [this]; exact hj
  · cases h

/-- A slice that came in, of elements that read by 'S'. -/
theorem open_sliceOf {α : Type} {S : Shape α} {t e : TypeId} {v : Value} {d : DataW H} {ps : List MemPlace} {base : Nat} (ht : P.underlying t = some (.slice e)) (hn : P.cellsOf e = S.n) (hpos : 0 < S.n)
    (hx : ∀ (fuel : Nat) (cs : List Value) (x : DataW H × List MemPlace), DataW.trod enc P w base (fun _ => true) true fuel e cs = some x → ∃ a, S.rep w cs a)
    (hv : ∃ a len cap, v = .slice a len cap) (h : DataW.Trod enc P w base (fun _ => true) true t v d ps) : ∃ xs, SliceOf S w v xs := by
  obtain ⟨a, len, cap, rfl⟩ := hv
  obtain ⟨fuel, h⟩ := h
  cases fuel with
  | zero => simp [DataW.trod] at h
  | succ fuel =>
    simp only [DataW.trod, ht, Value.cells] at h
    match a, len, cap, h with
    | none, 0, 0, _ => exact ⟨[], SliceOf.nil S w⟩
    | none, 0, c + 1, h => simp at h
    | none, l + 1, c, h => simp at h
    | some a, len, cap, h =>
      simp only [hn] at h
      split at h
      · rename_i hlc
        simp only [Option.bind_eq_some_iff, Option.map_eq_some_iff] at h
        obtain ⟨elems, h1, _⟩ := h
        obtain ⟨hl, hg⟩ := mapM_get h1
        have hg' : ∀ i, i < len → ∃ cs x, w.cells? base (a.add (i * S.n)) S.n = some cs ∧ S.rep w cs x := by
          intro i hi
          have := hg i (by simpa using hi)
          simp only [List.getElem_range] at this
          have hi2 : i < elems.length := by rw [hl]; simpa using hi
          rw [List.getElem?_eq_getElem hi2, Option.bind_eq_some_iff] at this
          obtain ⟨cs, hcs, htr⟩ := this
          obtain ⟨x, hx'⟩ := hx _ _ _ htr
          exact ⟨cs, x, hcs, hx'⟩
        by_cases h0 : len = 0
        · subst h0
          exact ⟨[], _, cap, rfl, .inl ⟨rfl, hlc.2.2⟩⟩
        · obtain ⟨cs0, x0, hcs0, hx0⟩ := hg' 0 (by omega)
          obtain ⟨hcl, hcg⟩ := cells?_get hcs0
          have hc0 := hcg 0 cs0[0] (List.getElem?_eq_getElem (by omega))
          obtain ⟨b, off, sp⟩ := a
          have hsp : sp = none := by simpa [Addr.add] using World.cell?_spot hc0
          subst hsp
          have hb : b < w.heap.size := by
            simp only [World.cell?] at hc0
            by_cases hlt : b < w.heap.size
            · exact hlt
            · simp [Addr.add, hlt] at hc0
          have hx2 : ∀ i : Nat, ∃ x, i < len → ∃ cs, w.cells? base ((⟨b, off, none⟩ : Addr).add (i * S.n)) S.n = some cs ∧ S.rep w cs x := by
            intro i
            by_cases hi : i < len
            · obtain ⟨cs, x, h1, h2⟩ := hg' i hi
              exact ⟨x, fun _ => ⟨cs, h1, h2⟩⟩
            · exact ⟨x0, fun h => absurd h hi⟩
          let f : Nat → α := fun i => (hx2 i).choose
          have hf : ∀ i, i < len → ∃ cs, w.cells? base ((⟨b, off, none⟩ : Addr).add (i * S.n)) S.n = some cs ∧ S.rep w cs (f i) := fun i => (hx2 i).choose_spec
          refine ⟨(List.range len).map f, some ⟨b, off, none⟩, cap, by simp, .inr ⟨b, off, rfl, hb, by simpa using hlc.2.1, hlc.2.2, fun i x hx => ?_⟩⟩
          simp only [List.getElem?_map, Option.map_eq_some_iff] at hx
          obtain ⟨i', hi', rfl⟩ := hx
          have hi'' := List.getElem?_eq_some_iff.1 hi'
          obtain ⟨hilt, hie⟩ := hi''
          simp at hilt hie
          subst hie
          obtain ⟨cs, h1, h2⟩ := hf i hilt
          refine ⟨cs, h2, fun j c hj => ?_⟩
          have := (cells?_get h1).2 j c hj
          have e : ((⟨b, off, none⟩ : Addr).add (i * S.n)).add j = ⟨b, off + i * S.n + j, none⟩ := by
            simp only [Addr.add]
            split <;> split <;> simp_all
          rw [e] at this
          exact this
      · cases h
end
end Go.Proofs.Ytpmgackgcefalaa
