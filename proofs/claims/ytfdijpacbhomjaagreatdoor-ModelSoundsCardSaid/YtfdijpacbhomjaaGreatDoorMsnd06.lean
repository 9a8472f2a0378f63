/-
  The abstract memory turned: a new block, a write, a block let go; the world with it.
  The abstract machine's operations on memory: each does what the model's does.
  The abstract machine's append and copy.
  Maps of the abstract memory: a new one; one that turns.
  Maps: what the model's operations do to the abstract memory.
  One operation of the abstract machine, but for the calls of functions; it does what the model's does.
  The abstract machine's code: what holds behind it; the rules; the calls.
  A region that draws its order, on the abstract machine: its first operations turn no block that was there; the others wait for all before them.
  A region that draws its order, on the abstract machine: whatever order is drawn, the end is the one of the text's order.
  A region that draws its order, on the abstract machine: one operation more, in whatever order.
-/
import Derived.Test.YtfdijpacbhomjaaGreatDoorMsnd04
import Derived.Test.YtfdijpacbhomjaaGreatDoorMsnd05
import Derived.Laws.IdiomStrings
import Derived.MapKept
import Derived.Maps.RangeRun
set_option linter.all false
namespace Go.Proofs.YtfdijpacbhomjaaGreatDoor.Abs
open Go
def setL : List Value → Nat → List Value → List Value
  | cs, _, [] => cs
  | cs, o, v :: r => setL (cs.set o v) (o + 1) r
def setA : Array Value → Nat → List Value → Array Value
  | C, _, [] => C
  | C, o, v :: r => setA (C.setIfInBounds o v) (o + 1) r
theorem setL_length : ∀ (vs cs : List Value) (o : Nat), (setL cs o vs).length = cs.length
  | [], _, _ => rfl
  | v :: r, cs, o => by simp [setL, setL_length r]
theorem setA_toList : ∀ (vs : List Value) (C : Array Value) (o : Nat), (setA C o vs).toList = setL C.toList o vs
  | [], _, _ => rfl
  | v :: r, C, o => by simp [setA, setL, setA_toList r]
theorem setA_size (C : Array Value) (o : Nat) (vs : List Value) : (setA C o vs).size = C.size := by
  rw [← Array.length_toList, setA_toList, setL_length, Array.length_toList]
theorem setL_get : ∀ (vs cs : List Value) (o i : Nat), o + vs.length ≤ cs.length → (setL cs o vs)[i]? = if o ≤ i ∧ i < o + vs.length then vs[i - o]? else cs[i]?
  | [], cs, o, i, _ => by
    rw [if_neg (by simp only [List.length_nil]; omega)]; rfl
  | v :: r, cs, o, i, h => by
    simp only [List.length_cons] at h
    rw [setL, setL_get r _ _ _ (by simp; omega)]
    by_cases h1 : o + 1 ≤ i ∧ i < o + 1 + r.length
    · rw [if_pos h1, if_pos (by simp; omega), show i - o = (i - (o + 1)) + 1 by omega]
      rfl
    · rw [if_neg h1, List.getElem?_set]
      by_cases h2 : o = i
      · subst h2
        rw [if_pos rfl, if_pos (by omega), if_pos (by simp)]
        simp
      · rw [if_neg h2, if_neg (by simp; omega)]
theorem heap_setCells : ∀ (vs : List Value) (w : World) (g o : Nat) (C : Array Value) (e : TypeId) (fz : Nat × Nat), w.heap[g]? = some (.cells C e fz) → (w.setCells g o vs).heap[g]? = some (.cells (setA C o vs) e fz)
  | [], _, _, _, _, _, _, h => h
  | v :: r, w, g, o, C, e, fz, h => by
    rw [World.setCells, setA]
    refine heap_setCells r _ g (o + 1) _ e fz ?_
    simp [World.setCell, Array.getElem?_modify, h]
theorem heap_setCells_ne : ∀ (vs : List Value) (w : World) (g o k : Nat), k ≠ g → (w.setCells g o vs).heap[k]? = w.heap[k]?
  | [], _, _, _, _, _ => rfl
  | v :: r, w, g, o, k, h => by
    rw [World.setCells, heap_setCells_ne r _ g _ k h]
    exact RowKit.Below.heap_setCell w ⟨g, o, none⟩ v k h
theorem setCells_rest : ∀ (vs : List Value) (w : World) (g o : Nat), (w.setCells g o vs).heap.size = w.heap.size ∧ (w.setCells g o vs).os = w.os ∧ (w.setCells g o vs).tape = w.tape ∧ (w.setCells g o vs).output = w.output
  | [], _, _, _ => ⟨rfl, rfl, rfl, rfl⟩
  | v :: r, w, g, o => by
    rw [World.setCells]
    obtain ⟨h1, h2, h3, h4⟩ := setCells_rest r (w.setCell ⟨g, o, none⟩ v) g (o + 1)
    exact ⟨h1.trans (by simp [World.setCell]), h2, h3, h4⟩
theorem VRels.toL {n : Nat → Prop} {ι : Nat → Loc} {cs : List Value} {C : Array Value} {base : Nat} (hl : base + cs.length ≤ C.size) (h : ∀ i v, cs[i]? = some v → ∃ v', C[base + i]? = some v' ∧ VRel n ι v v') :
    VRels n ι cs ((C.toList.drop base).take cs.length) := by
  refine ⟨by simp; omega, fun i x y hx hy => ?_⟩
  obtain ⟨v', h1, h2⟩ := h i x hx
  rw [List.getElem?_take] at hy
  have hi : i < cs.length := (List.getElem?_eq_some_iff.1 hx).1
  rw [if_pos hi, List.getElem?_drop, Array.getElem?_toList, h1] at hy
  cases hy
  exact h2
theorem cell_of_block {w : World} {g i : Nat} {C : Array Value} {e : TypeId} {fz : Nat × Nat} (h : w.heap[g]? = some (.cells C e fz)) : w.cell? ⟨g, i, none⟩ = C[i]? := by
  simp [World.cell?, h]
theorem frozen_of_block {w : World} {g i : Nat} {C : Array Value} {e : TypeId} {fz : Nat × Nat} (h : w.heap[g]? = some (.cells C e fz)) (hf : ¬ (fz.1 ≤ i ∧ i < fz.2)) : w.frozen? ⟨g, i, none⟩ = false := by
  obtain ⟨lo, hi⟩ := fz
  simp only [World.frozen?, h]
  simp only at hf
  simp
  omega
section
variable {ι : Nat → Loc} {m : Mem} {w : World}
theorem Rel.sub (h : Rel ι m w) {m' : Mem} (hs : ∀ b, m.Has b → m'.Has b) (hg : ∀ b x, m'.get b = some x → m.get b = some x) : Rel ι m' w where
  at' b ro s cs hb := by
    obtain ⟨C, e, fz, h1, h2, h3, h4, h5, h6⟩ := h.at' b ro s cs (hg b _ hb)
    exact ⟨C, e, fz, h1, h2, h3, h4, fun i v hi => by
      obtain ⟨h7, v', h8, h9⟩ := h5 i v hi
      exact ⟨h7, v', h8, h9.mono hs fun _ _ => rfl⟩, h6⟩
  oth b x hb := (h.oth b x (hg b x hb)).mono hs fun _ _ => rfl
  inj b b' hb hb' hne := by
    obtain ⟨y, ho, hy⟩ := hb'
    refine h.inj b b' ?_ ⟨y, hg _ _ ho, hy⟩ hne
    cases hx : m'.get b with
    | none => exact absurd hx hb
    | some x => rw [hg b x hx]; simp
  glob := ⟨h.glob.known, fun b ⟨y, hb, hy⟩ => h.glob.own b ⟨y, hg _ _ hb, hy⟩⟩
theorem get_killed (b : Nat) : (m.set b none).get b = none := by
  unfold Mem.get Mem.set
  by_cases hb : b < m.blks.length
  · simp [hb]
  · have : (m.blks.set b (some none))[b]? = none := by simp; omega
    simp only [this]
theorem own_of_set_none {b b' : Nat} (h : (m.set b none).Own b') : m.Own b' := by
  obtain ⟨y, h, hy⟩ := h
  by_cases e : b = b'
  · subst e
    cases hx : m.get b with
    | none =>
      rw [get_killed] at h; cases h
    | some x => rw [Mem.get_set_same hx] at h; cases h
  · rw [Mem.get_set_ne e] at h; exact ⟨y, h, hy⟩
theorem get_of_set_none {b b' : Nat} {x : Blk} (h : (m.set b none).get b' = some x) : m.get b' = some x ∧ b ≠ b' := by
  by_cases e : b = b'
  · subst e
    exfalso
    cases hx : m.get b with
    | none =>
      rw [get_killed] at h; cases h
    | some x => rw [Mem.get_set_same hx] at h; cases h
  · rw [Mem.get_set_ne e] at h; exact ⟨h, e⟩
theorem Rel.kill (h : Rel ι m w) (b : Nat) : Rel ι (m.set b none) w := h.sub (fun _ hb => Mem.has_set none hb) fun b' x hx => (get_of_set_none hx).1
theorem Step.kill (b : Nat) : Step ι m w ι (m.set b none) w :=
  ⟨rfl, rfl, rfl, Nat.le_refl _, fun _ hb => Mem.has_set none hb, fun _ _ => rfl, fun _ _ _ => rfl, fun b' hb' => .inr ⟨b', own_of_set_none hb', rfl⟩⟩
def newLoc (ι : Nat → Loc) (n : Nat) (l : Loc) : Nat → Loc := fun b => if b = n then l else ι b
theorem newLoc_old {n b : Nat} (l : Loc) (h : b < n) : newLoc ι n l b = ι b := by unfold newLoc; rw [if_neg (by omega)]
theorem newLoc_new {n : Nat} (l : Loc) : newLoc ι n l n = l := by unfold newLoc; rw [if_pos rfl]
theorem Rel.push (h : Rel ι m w) (ro : Bool) (l : Loc) (cs : List Value) (C : Array Value) (e : TypeId) (fz : Nat × Nat) (hC : w.heap[l.blk]? = some (.cells C e fz)) (hs : C.size = l.size) (hl : l.base + cs.length ≤ C.size)
    (hv : ∀ i v, cs[i]? = some v → v.oneCell' = true ∧ ∃ v', C[l.base + i]? = some v' ∧ VRel m.Has ι v v') (hf : ∀ i, i < C.size → ¬ (fz.1 ≤ i ∧ i < fz.2))
    (hn : ∀ b, m.get b ≠ none → (ι b).blk ≠ l.blk) (hgl : ro = false → globTop ≤ l.blk) (htg : TagAt l.base l.stride e C.size cs.length) : Rel (newLoc ι m.size l) (m.push (.cells ro l.stride cs)) w where
  at' b ro' s' cs' hb := by
    have mono : ∀ {v v' : Value}, VRel m.Has ι v v' → VRel (m.push (.cells ro l.stride cs)).Has (newLoc ι m.size l) v v' := fun hv => hv.mono (fun _ hb => Mem.has_push _ hb) fun b hb => newLoc_old l (Mem.has_lt hb)
    rcases Mem.get_push hb with ⟨hlt, hg⟩ | ⟨rfl, hx⟩
    · rw [newLoc_old l hlt]
      obtain ⟨C', e', fz', h1, h2, h3, h4, h5, h6⟩ := h.at' b ro' s' cs' hg
      exact ⟨C', e', fz', h1, h2, h3, h4, fun i v hi => by
        obtain ⟨h7, v', h8, h9⟩ := h5 i v hi
        exact ⟨h7, v', h8, mono h9⟩, h6⟩
    · cases hx
      rw [newLoc_new]
      exact ⟨C, e, fz, hC, hs, ⟨rfl, htg⟩, hl, fun i v hi => by
        obtain ⟨h7, v', h8, h9⟩ := hv i v hi
        exact ⟨h7, v', h8, mono h9⟩, fun _ => hf⟩
  oth b x hb := by
    rcases Mem.get_push hb with ⟨hlt, hg⟩ | ⟨rfl, hx⟩
    · rw [newLoc_old l hlt]
      exact (h.oth b x hg).mono (fun _ hb => Mem.has_push _ hb) fun b hb => newLoc_old l (Mem.has_lt hb)
    · cases hx; trivial
  inj b b' hb hb' hne := by
    have low : ∀ {c x}, (m.push (.cells ro l.stride cs)).get c = some x → (c < m.size ∧ m.get c = some x) ∨ c = m.size := fun hx => by
      rcases Mem.get_push hx with h | ⟨h, _⟩
      · exact .inl h
      · exact .inr h
    obtain ⟨y, ho, hy⟩ := hb'
    cases hx : (m.push (.cells ro l.stride cs)).get b with
    | none => exact absurd hx hb
    | some x =>
      rcases low hx with ⟨h1, h2⟩ | rfl
      · rcases low ho with ⟨h3, h4⟩ | rfl
        · rw [newLoc_old l h1, newLoc_old l h3]
          exact h.inj b b' (by rw [h2]; simp) ⟨y, h4, hy⟩ hne
        · rw [newLoc_old l h1, newLoc_new]
          exact hn b (by rw [h2]; simp)
      · rcases low ho with ⟨h3, h4⟩ | rfl
        · rw [newLoc_old l h3, newLoc_new]
          exact Ne.symm (hn b' (by rw [h4]; simp))
        · exact absurd rfl hne
  glob := ⟨h.glob.known, fun b ⟨y, ho, hy⟩ => by
    rcases Mem.get_push ho with ⟨h1, h2⟩ | ⟨rfl, h2⟩
    · rw [newLoc_old l h1]
      exact h.glob.own b ⟨y, h2, hy⟩
    · cases h2
      rw [newLoc_new]
      exact hgl (by simpa [Blk.own] using hy)⟩
structure OneMore (w w' : World) (o : Obj) : Prop where
  heap : w'.heap = w.heap.push o
  os : w'.os = w.os
  tape : w'.tape = w.tape
  output : w'.output = w.output
theorem Rel.more (h : Rel ι m w) {w' : World} {o : Obj} (k : OneMore w w' o) : Rel ι m w' where
  at' b ro s cs hb := by
    obtain ⟨C, e, fz, h1, h2⟩ := h.at' b ro s cs hb
    have hlt : (ι b).blk < w.heap.size := by
      have : w.heap[(ι b).blk]? ≠ none := by rw [h1]; simp
      simpa using this
    exact ⟨C, e, fz, by rw [k.heap, Array.getElem?_push, if_neg (by omega)]; exact h1, h2⟩
  oth b x hb := by
    have h1 := h.oth b x hb
    cases x with
    | cells => trivial
    | kv ro es c =>
      obtain ⟨h1, h2⟩ := h1
      have hlt : (ι b).blk < w.heap.size := by
        have : w.heap[(ι b).blk]? ≠ none := by rw [h1]; simp
        simpa using this
      exact ⟨by rw [k.heap, Array.getElem?_push, if_neg (by omega)]; exact h1, h2⟩
    | raw ro C e lo hi =>
      obtain ⟨h1, h2⟩ := h1
      have hlt : (ι b).blk < w.heap.size := by
        have : w.heap[(ι b).blk]? ≠ none := by rw [h1]; simp
        simpa using this
      exact ⟨by rw [k.heap, Array.getElem?_push, if_neg (by omega)]; exact h1, h2⟩
    | it ro b' s seen l =>
      obtain ⟨h1, h2⟩ := h1
      have hlt : (ι b).blk < w.heap.size := by
        have : w.heap[(ι b).blk]? ≠ none := by rw [h1]; simp
        simpa using this
      exact ⟨by rw [k.heap, Array.getElem?_push, if_neg (by omega)]; exact h1, h2⟩
  inj := h.inj
  glob := ⟨h.glob.known.keep fun g hg => by
    have := h.glob.known.size
    rw [k.heap, Array.getElem?_push, if_neg (by omega)], h.glob.own⟩
theorem Rel.lt (h : Rel ι m w) {b : Nat} (hb : m.get b ≠ none) : (ι b).blk < w.heap.size := by
  cases hx : m.get b with
  | none => exact absurd hx hb
  | some x =>
    have : w.heap[(ι b).blk]? ≠ none := by
      cases x with
      | cells ro s cs => obtain ⟨C, e, fz, h1, h2⟩ := h.at' b ro s cs hx; rw [h1]; simp
      | kv ro es c => rw [(h.oth b _ hx).1]; simp
      | raw ro C e lo hi => rw [(h.oth b _ hx).1]; simp
      | it ro b' s seen l => rw [(h.oth b _ hx).1]; simp
    simpa using this
theorem Rel.same (h : Rel ι m w) {w' : World} (k : ∀ g, g < w.heap.size → w'.heap[g]? = w.heap[g]?) : Rel ι m w' where
  at' b ro s cs hb := by
    obtain ⟨C, e, fz, h1, h2⟩ := h.at' b ro s cs hb
    exact ⟨C, e, fz, by rw [k _ (Array.getElem?_eq_some_iff.1 h1).1]; exact h1, h2⟩
  oth b x hb := by rw [k _ (h.lt (by rw [hb]; simp))]; exact h.oth b x hb
  inj := h.inj
  glob := ⟨h.glob.known.keep fun g hg => k g (Nat.lt_of_lt_of_le hg h.glob.known.size), h.glob.own⟩
theorem Rel.new (h : Rel ι m w) {w' : World} {C : Array Value} {e : TypeId} {fz : Nat × Nat} (k : OneMore w w' (.cells C e fz)) (ro : Bool) (s : Nat) (cs : List Value) (hl : cs.length ≤ C.size)
    (hv : ∀ (i : Nat) (v : Value), cs[i]? = some v → v.oneCell' = true ∧ ∃ v', C[i]? = some v' ∧ VRel m.Has ι v v') (hf : ∀ i, i < C.size → ¬ (fz.1 ≤ i ∧ i < fz.2)) (htg : TagAt 0 s e C.size cs.length) :
    Rel (newLoc ι m.size ⟨w.heap.size, 0, C.size, s⟩) (m.push (.cells ro s cs)) w' ∧ Step ι m w (newLoc ι m.size ⟨w.heap.size, 0, C.size, s⟩) (m.push (.cells ro s cs)) w' := by
  refine ⟨(h.more k).push ro ⟨w.heap.size, 0, C.size, s⟩ cs C e fz (by rw [k.heap]; simp) rfl (by simpa using hl) (by simpa using hv) hf (fun b hb => ?_) (fun _ => h.glob.known.size) htg, ?_⟩
  · have := h.lt hb
    simp only
    omega
  · refine ⟨k.os, k.tape, k.output, by rw [k.heap]; simp, fun _ hb => Mem.has_push _ hb, fun b hb => newLoc_old _ (Mem.has_lt hb), fun g hg _ => by rw [k.heap, Array.getElem?_push, if_neg (by omega)], fun b hb => ?_⟩
    obtain ⟨y, ho, hy⟩ := hb
    rcases Mem.get_push ho with ⟨h1, h2⟩ | ⟨h1, _⟩
    · exact .inr ⟨b, ⟨y, h2, hy⟩, by rw [newLoc_old _ h1]⟩
    · subst h1
      rw [newLoc_new]
      exact .inl (Nat.le_refl _)
theorem Rel.write (h : Rel ι m w) {b s : Nat} {cs : List Value} (hb : m.get b = some (.cells false s cs)) (o : Nat) (vs us : List Value) (ho : o + vs.length ≤ cs.length) (h1 : ∀ v ∈ vs, v.oneCell' = true) (hr : VRels m.Has ι vs us) :
    Rel ι (m.set b (some (.cells false s (setL cs o vs)))) (w.setCells (ι b).blk ((ι b).base + o) us) ∧ Step ι m w ι (m.set b (some (.cells false s (setL cs o vs)))) (w.setCells (ι b).blk ((ι b).base + o) us) := by
  obtain ⟨C, e, fz, hC, hsz, hst, hlen, hv, hfz⟩ := h.at' b false s cs hb
  have hheap := heap_setCells us w (ι b).blk ((ι b).base + o) C e fz hC
  obtain ⟨hs1, hs2, hs3, hs4⟩ := setCells_rest us w (ι b).blk ((ι b).base + o)
  have hul : us.length = vs.length := hr.1.symm
  have hCl : C.toList.length = C.size := by simp
  have hget : ∀ c, c ≠ b → (m.set b (some (.cells false s (setL cs o vs)))).get c = m.get c := fun c hc => Mem.get_set_ne (Ne.symm hc) _
  have hsame := Mem.get_set_same hb (some (.cells false s (setL cs o vs)))
  refine ⟨⟨?_, ?_, ?_, ?_⟩, ⟨hs2, hs3, hs4, by rw [hs1]; exact Nat.le_refl _, fun _ hc => Mem.has_set _ hc, fun _ _ => rfl, ?_, ?_⟩⟩
  · intro c ro' s' cs' hc
    have up : ∀ {v v' : Value}, VRel m.Has ι v v' → VRel (m.set b (some (.cells false s (setL cs o vs)))).Has ι v v' := fun hv => hv.mono (fun _ hc => Mem.has_set _ hc) fun _ _ => rfl
    by_cases e : c = b
    · subst e
      rw [hsame] at hc
      cases hc
      refine ⟨_, _, _, hheap, by rw [setA_size]; exact hsz, by rw [setA_size, setL_length]; exact hst, by rw [setL_length, setA_size]; exact hlen, fun i v hi => ?_, fun hro i hi => hfz rfl i (by rwa [setA_size] at hi)⟩
      rw [setL_get _ _ _ _ ho] at hi
      rw [← Array.getElem?_toList, setA_toList, setL_get _ _ _ _ (by simp only [hCl]; omega)]
      split at hi
      · rename_i hin
        rw [if_pos (by omega), show (ι c).base + i - ((ι c).base + o) = i - o by omega]
        obtain ⟨y, hy1, hy2⟩ := hr.get hi
        exact ⟨h1 v (List.mem_of_getElem? hi), y, hy1, up hy2⟩
      · rename_i hout
        rw [if_neg (by omega), Array.getElem?_toList]
        obtain ⟨k1, v', k2, k3⟩ := hv i v hi
        exact ⟨k1, v', k2, up k3⟩
    · rw [hget c e] at hc
      obtain ⟨C', e', fz', k1, k2, k3, k4, k5, k6⟩ := h.at' c ro' s' cs' hc
      refine ⟨C', e', fz', ?_, k2, k3, k4, fun i v hi => by
        obtain ⟨k7, v', k8, k9⟩ := k5 i v hi
        exact ⟨k7, v', k8, up k9⟩, k6⟩
      rw [heap_setCells_ne _ _ _ _ _ (h.inj c b (by rw [hc]; simp) (.of hb) e)]
      exact k1
  · intro c x hc
    by_cases e : c = b
    · subst e
      rw [hsame] at hc
      cases hc
      trivial
    · rw [hget c e] at hc
      have k1 := h.oth c x hc
      rw [heap_setCells_ne _ _ _ _ _ (h.inj c b (by rw [hc]; simp) (.of hb) e)]
      exact k1.mono (fun _ hc => Mem.has_set _ hc) fun _ _ => rfl
  · intro c c' hc hc' hne
    refine h.inj c c' ?_ ?_ hne
    · intro hn
      by_cases e : c = b
      · subst e; rw [hb] at hn; cases hn
      · exact hc (by rw [hget c e]; exact hn)
    · obtain ⟨y, ho', hy⟩ := hc'
      by_cases e : c' = b
      · subst e; exact .of hb
      · rw [hget c' e] at ho'; exact ⟨y, ho', hy⟩
  · have hbg := h.glob.own b (.of hb)
    refine ⟨h.glob.known.keep fun g hg => heap_setCells_ne _ _ _ _ _ (by omega), fun c hc => ?_⟩
    obtain ⟨y, ho', hy⟩ := hc
    by_cases e : c = b
    · subst e; exact hbg
    · rw [hget c e] at ho'; exact h.glob.own c ⟨y, ho', hy⟩
  · intro g _ hg
    exact heap_setCells_ne _ _ _ _ _ fun e => hg b (.of hb) e.symm
  · intro c hc
    obtain ⟨y, ho', hy⟩ := hc
    by_cases e : c = b
    · subst e; exact .inr ⟨c, .of hb, rfl⟩
    · rw [hget c e] at ho'; exact .inr ⟨c, ⟨y, ho', hy⟩, rfl⟩
end
end Go.Proofs.YtfdijpacbhomjaaGreatDoor.Abs
namespace Go.Proofs.YtfdijpacbhomjaaGreatDoor.Abs
open Go
def oneAll (vs : List Value) : Bool := vs.all (·.oneCell')
theorem oneAll_spec {vs : List Value} (h : oneAll vs = true) : ∀ v ∈ vs, v.oneCell' = true := by simpa [oneAll] using h
def aStride (P : Program) (t : TypeId) : Nat :=
  if tagT = some t then 0 else
  match P.underlying t with
  | some (.array _ e) => match P.info? e with | some i => if i.size = 0 ∨ i.size = bufS then 1 else i.size | none => 1
  | _ => 1
theorem aStride_zero {P : Program} {t : TypeId} (h : aStride P t = 0) : tagT = some t := by
  unfold aStride at h
  split at h
  · assumption
  · split at h
    · split at h
      · split at h <;> omega
      · omega
    · omega
theorem aStride_buf {P : Program} {t : TypeId} (h : aStride P t = bufS) : False := by
  unfold aStride bufS at h
  split at h
  · omega
  · split at h
    · split at h
      · split at h <;> omega
      · omega
    · omega
def aLoad (P : Program) (m : Mem) (t : TypeId) (p : Value) : Option Value :=
  match p with
  | .pointer (some ⟨b, o, none⟩) => match m.get b with
    | some (.cells _ _ cs) => match P.underlying t with
      | none => none
      | some d => if d.isRow then match P.info? t with
          | some i => if o + i.size ≤ cs.length then some (.agg ((cs.drop o).take i.size).toArray) else none
          | none => none
        else cs[o]?
    | _ => none
  | _ => none
def aStore (P : Program) (m : Mem) (t : TypeId) (p v : Value) : Option Mem :=
  match p with
  | .pointer (some ⟨b, o, none⟩) => match m.get b with
    | some (.cells false s cs) => match P.info? t with
      | some i => if v.cells.toList.length = i.size ∧ o + v.cells.toList.length ≤ cs.length ∧ oneAll v.cells.toList = true then some (m.set b (some (.cells false s (setL cs o v.cells.toList)))) else none
      | none => none
    | _ => none
  | _ => none
def aBox (P : Program) (m : Mem) (t : TypeId) (v : Value) : Option (Value × Mem) :=
  if oneAll v.cells.toList = true then some (.pointer (some ⟨m.size, 0, none⟩), m.push (.cells false (aStride P t) v.cells.toList)) else none
def aAlloc (P : Program) (m : Mem) (t : TypeId) : Option (Value × Mem) :=
  match P.info? t with
  | some i => match i.zero with
    | some z => if flat 3 z = true then aBox P m t z else none
    | none => none
  | none => none
def aFill (place : Nat → Option (Nat × Nat)) : List Value → List (Nat × Value) → Option (List Value)
  | cs, [] => some cs
  | cs, (i, v) :: rest => match place i with
    | some (off, size) => if v.cells.toList.length = size ∧ off + v.cells.toList.length ≤ cs.length then aFill place (setL cs off v.cells.toList) rest else none
    | none => none
def aPlaces (P : Program) (fs : List Field) : Option (List (Nat × Nat)) := fs.mapM fun f => (P.info? f.type).map fun i => (f.offset, i.size)
def aBuild (P : Program) (t : TypeId) (parts : List (Nat × Value)) : Option Value :=
  match P.info? t with
  | some it => match it.zero with
    | some z => if flat 3 z = true then match P.underlying t with
        | some (.struct fs) => match aPlaces P fs.toList with
          | some places => match aFill (fun i => places[i]?) z.cells.toList parts with
            | some cs => some (.agg cs.toArray)
            | none => none
          | none => none
        | some (.array _ e) => match P.info? e with
          | some ie => match aFill (fun i => some (i * ie.size, ie.size)) z.cells.toList parts with
            | some cs => some (.agg cs.toArray)
            | none => none
          | none => none
        | _ => none
      else none
    | none => none
  | none => none
def aZeros (z : List Value) (n : Nat) : List Value :=
  match z with
  | [v] => List.replicate n v
  | _ => (List.range n).map fun i => (z[i % z.length]?).getD default
def aBuildSlice (P : Program) (m : Mem) (t : TypeId) (len : Nat) (parts : List (Nat × Value)) : Option (Value × Mem) :=
  match P.underlying t with
  | some (.slice e) => match P.info? e with
    | some ie => match ie.zero with
      | some z => if flat 3 z = true ∧ len * ie.size ≤ 16777216 ∧ 0 < z.cells.toList.length ∧ oneAll z.cells.toList = true ∧ parts.all (fun p => oneAll p.2.cells.toList) = true then
          match aFill (fun i => some (i * ie.size, ie.size)) (aZeros z.cells.toList (len * ie.size)) parts with
          | some cs => some (.slice (some ⟨m.size, 0, none⟩) len len, m.push (.cells false ie.size cs))
          | none => none
        else none
      | none => none
    | none => none
  | _ => none
def aMakeSlice (P : Program) (m : Mem) (t : TypeId) (l c : Value) : Option (Value × Mem) :=
  match P.underlying t with
  | some (.slice e) => match P.info? e with
    | some ie => match ie.zero with
      | some z => match l, c with
        | .int _ l, .int _ c => if flat 3 z = true ∧ 0 < z.cells.toList.length ∧ oneAll z.cells.toList = true ∧ 0 ≤ l ∧ l ≤ c ∧ (ie.bytes : Int) * c ≤ 281474976710656 ∧ c ≤ 281474976710656 then
            some (.slice (some ⟨m.size, 0, none⟩) l.toNat c.toNat, m.push (.cells false ie.size (aZeros z.cells.toList (c.toNat * ie.size))))
          else none
        | _, _ => none
      | none => none
    | none => none
  | _ => none
def byteCells' (s : ByteArray) : List Value := s.data.toList.map fun b => .int .u8 b.toNat
def aToBytes (P : Program) (m : Mem) (src dst : TypeId) (s : ByteArray) : Option (Value × Mem) :=
  match P.underlying src with
  | some .string => match P.underlying dst with
    | some (.slice e) => match P.underlying e with
      | some (.int .u8) => if bsize s ≤ 140737488355328 then some (.slice (some ⟨m.size, 0, none⟩) (bsize s) (bsize s), m.push (.cells false 1 (byteCells' s))) else none
      | _ => none
    | _ => none
  | _ => none
def cellBytes : List Value → Option (List UInt8)
  | [] => some []
  | .int .u8 n :: r => match cellBytes r with | some l => some (UInt8.ofNat n.toNat :: l) | none => none
  | _ => none
def aToString (P : Program) (m : Mem) (src dst : TypeId) (x : Value) : Option Value :=
  match P.underlying src with
  | some (.slice e) => match P.underlying dst with
    | some .string => match P.underlying e with
      | some (.int .u8) => match x with
        | .slice none 0 0 => some (.string ⟨#[]⟩)
        | .slice (some ⟨b, o, none⟩) n _ => match m.get b with
          | some (.cells _ _ cs) => if o + n ≤ cs.length then match cellBytes ((cs.drop o).take n) with
              | some l => some (.string ⟨⟨l⟩⟩)
              | none => none
            else none
          | _ => none
        | _ => none
      | _ => none
    | _ => none
  | _ => none
def aSrc (P : Program) (m : Mem) (tx : TypeId) (size : Nat) (x : Value) : Option (Nat × List Value) :=
  match P.underlying tx with
  | some (.slice _) => match x with
    | .slice none 0 0 => some (0, [])
    | .slice (some ⟨b, o, none⟩) n _ => match m.get b with
      | some (.cells _ _ cs) => if o + n * size ≤ cs.length then some (n, (cs.drop o).take (n * size)) else none
      | _ => none
    | _ => none
  | some .string => match x with
    | .string s => if size = 1 then some (bsize s, byteCells' s) else none
    | _ => none
  | _ => none
def aAppend (P : Program) (m : Mem) (t tx : TypeId) (s x : Value) : Option (Value × Mem) :=
  match P.underlying t with
  | some (.slice e) => match P.info? e with
    | some i => match i.zero with
      | some z => if z.cells.toList.length = i.size then match aSrc P m tx i.size x with
        | some (n, news) => match s with
          | .slice none 0 0 => if n = 0 then some (.slice none 0 0, m) else if n * i.bytes ≤ 140737488355328 ∧ n ≤ 140737488355328 then
              some (.slice (some ⟨m.size, 0, none⟩) n n, m.push (.cells false i.size news)) else none
          | .slice (some ⟨b, o, none⟩) len cap =>
            if n = 0 then some (.slice (some ⟨b, o, none⟩) len cap, m) else
            match m.get b with
            | some (.cells false st cs) =>
              if len + n ≤ cap then
                if o + len * i.size + news.length ≤ cs.length then some (.slice (some ⟨b, o, none⟩) (len + n) cap, m.set b (some (.cells false st (setL cs (o + len * i.size) news)))) else none
              else if o + len * i.size ≤ cs.length ∧ st = i.size ∧ (len + n) * i.bytes ≤ 140737488355328 ∧ len + n ≤ 140737488355328 then
                some (.slice (some ⟨m.size, 0, none⟩) (len + n) (len + n), (m.set b none).push (.cells false i.size ((cs.drop o).take (len * i.size) ++ news)))
              else none
            | _ => none
          | _ => none
        | none => none
        else none
      | none => none
    | none => none
  | _ => none
section sim
variable {P : Program} {ι : Nat → Loc} {m : Mem} {w : World}
def Sim (ι : Nat → Loc) (m : Mem) (w : World) (r : Result Value) (v : Value) (m' : Mem) : Prop :=
  ∃ v' w' κ, r = .ok v' w' ∧ VRel m'.Has κ v v' ∧ Rel κ m' w' ∧ Step ι m w κ m' w'
theorem Sim.pure (h : Rel ι m w) {r : Result Value} {v v' : Value} (hr : r = .ok v' w) (hv : VRel m.Has ι v v') : Sim ι m w r v m := ⟨v', w, ι, hr, hv, h, Step.refl _ _ _⟩
theorem aLoad_run (h : Rel ι m w) {t : TypeId} {p v : Value} (hl : aLoad P m t p = some v) {p' : Value} (hp : VRel m.Has ι p p') : ∃ v', (Instr.loadAt t p').run P w = .ok v' w ∧ VRel m.Has ι v v' := by
  unfold aLoad at hl
  split at hl <;> first | (cases hl; done) | skip
  rename_i b o
  split at hl <;> first | (cases hl; done) | skip
  rename_i ro s cs hb
  split at hl <;> first | (cases hl; done) | skip
  rename_i d hu
  cases hp
  obtain ⟨C, e, fz, hC, hsz, hst, hlen, hv, hfz⟩ := h.at' b ro s cs hb
  split at hl <;> first | (cases hl; done) | skip
  · rename_i hrow
    split at hl <;> first | (cases hl; done) | skip
    rename_i i hi
    split at hl <;> first | (cases hl; done) | skip
    rename_i hle
    have hl := Option.some.inj hl
    subst hl
    have hr := (((VRels.toL hlen fun i v hi => (hv i v hi).2).drop o).take i.size)
    refine ⟨.agg ((((C.toList.drop (ι b).base).take cs.length).drop o).take i.size).toArray, ?_, .aggs (by simpa using hr)⟩
    refine run_loadAt_mid w _ _ t _ d ?_ hu hrow (by rw [hi]; simp; omega)
    intro j u hj
    have hj' := (List.getElem?_eq_some_iff.1 hj).1
    rw [cell_of_block hC]
    simp at hj' hj ⊢
    rw [List.getElem?_take] at hj
    split at hj
    · rw [List.getElem?_drop, List.getElem?_take] at hj
      split at hj
      · rw [List.getElem?_drop, Array.getElem?_toList] at hj
        rw [← hj, Nat.add_assoc]
      · cases hj
    · cases hj
  · rename_i hrow
    obtain ⟨_, v', h1, h2⟩ := hv o v hl
    refine ⟨v', ?_, h2⟩
    have hag : (isAgg t).run P w = .ok false w := by
      simp only [isAgg, Sem.run_bind, run_underlying hu w, Result.andThen_ok]
      cases d <;> first | rfl | (exact absurd rfl hrow)
    have hc : w.cell? ⟨(ι b).blk, (ι b).base + o, none⟩ = some v' := by rw [cell_of_block hC]; exact h1
    simp [Instr.loadAt, Instr.sureAddr, loadVar, hag, hc]
theorem aStore_run (h : Rel ι m w) {t : TypeId} {p v : Value} {m' : Mem} (hl : aStore P m t p v = some m') {p' v' : Value} (hp : VRel m.Has ι p p') (hv : VRel m.Has ι v v') :
    ∃ w', (Instr.storeAt t p' v').run P w = .ok () w' ∧ Rel ι m' w' ∧ Step ι m w ι m' w' := by
  unfold aStore at hl
  split at hl <;> first | (cases hl; done) | skip
  rename_i b o
  split at hl <;> first | (cases hl; done) | skip
  rename_i s cs hb
  split at hl <;> first | (cases hl; done) | skip
  rename_i i hi
  split at hl <;> first | (cases hl; done) | skip
  rename_i hcond
  obtain ⟨hs, hle, h1⟩ := hcond
  have hl := Option.some.inj hl
  subst hl
  cases hp
  obtain ⟨hR, hS⟩ := h.write hb o v.cells.toList v'.cells.toList hle (oneAll_spec h1) hv.cells
  refine ⟨_, ?_, hR, hS⟩
  obtain ⟨C, e, fz, hC, hsz, hst, hlen, hvv, hfz⟩ := h.at' b false s cs hb
  have hlen' := hv.cells.1
  have hone' : ∀ u ∈ v'.cells.toList, u.oneCell' = true := by
    intro u hu
    obtain ⟨j, hj, rfl⟩ := List.getElem_of_mem hu
    have := hv.cells.2 j (v.cells.toList[j]'(by omega)) _ (List.getElem?_eq_getElem _) (List.getElem?_eq_getElem hj)
    rw [this.one]
    exact oneAll_spec h1 _ (List.getElem_mem _)
  have hst := run_storeCells_cells (P := P) (ι b).blk ((ι b).base + o) v'.cells.toList 0 w (fun j hj => by
      rw [cell_of_block hC]; simp; omega) (fun j hj => frozen_of_block hC (hfz rfl _ (by omega))) hone'
  have hsize : v'.cells.size = i.size := by
    have : v'.cells.toList.length = v'.cells.size := by simp
    omega
  simp only [Nat.add_zero] at hst
  simp [Instr.storeAt, Instr.sureAddr, storeVar, run_sizeOf' hi, hsize, hst]
theorem OneMore.alloc (w : World) (o : Obj) : OneMore w (w.alloc o) o := ⟨rfl, rfl, rfl, rfl⟩
theorem OneMore.drewAlloc (w : World) (o : Obj) : OneMore w (w.drew.alloc o) o := ⟨rfl, rfl, rfl, rfl⟩
theorem Rel.newCells (h : Rel ι m w) {w' : World} {C : Array Value} {e : TypeId} {fz : Nat × Nat} (k : OneMore w w' (.cells C e fz)) (s : Nat) {cs : List Value} {rest : List Value} (hv : VRels m.Has ι cs (C.toList.take cs.length)) (hle : cs.length ≤ C.size)
    (h1 : oneAll cs = true) (hf : fz = (0, 0) ∨ C.size ≤ fz.1) (htg : TagAt 0 s e C.size cs.length) :
    Rel (newLoc ι m.size ⟨w.heap.size, 0, C.size, s⟩) (m.push (.cells false s cs)) w' ∧ Step ι m w (newLoc ι m.size ⟨w.heap.size, 0, C.size, s⟩) (m.push (.cells false s cs)) w' := by
  refine h.new k false s cs hle (fun i v hi => ⟨oneAll_spec h1 v (List.mem_of_getElem? hi), ?_⟩) (fun i hi => ?_) htg
  · obtain ⟨y, hy, hr⟩ := hv.get hi
    rw [List.getElem?_take] at hy
    split at hy
    · rw [Array.getElem?_toList] at hy; exact ⟨y, hy, hr⟩
    · cases hy
  · rcases hf with rfl | hf
    · simp
    · omega
theorem VRels.whole {n : Nat → Prop} {cs : List Value} {C : Array Value} (h : VRels n ι cs C.toList) : VRels n ι cs (C.toList.take cs.length) := by
  rw [h.1, List.take_length]; exact h
theorem newPtr (x : Blk) (l : Loc) : VRel (m.push x).Has (newLoc ι m.size l) (.pointer (some ⟨m.size, 0, none⟩)) (.pointer (some ⟨l.blk, l.base, none⟩)) := by
  have := VRel.ptr (ι := newLoc ι m.size l) (n := (m.push x).Has) m.size 0 (Mem.has_push_new _ _)
  rw [newLoc_new] at this
  exact this
theorem newSlice (x : Blk) (l : Loc) (len cap cap' : Nat) (hl : len ≤ cap) (hc : cap' = cap ∨ (cap ≤ cap' ∧ l.base + cap' * l.stride ≤ l.size ∧ cap' ≤ maxLen)) : VRel (m.push x).Has (newLoc ι m.size l) (.slice (some ⟨m.size, 0, none⟩) len cap) (.slice (some ⟨l.blk, l.base, none⟩) len cap') := by
  have := VRel.slice (ι := newLoc ι m.size l) (n := (m.push x).Has) m.size 0 len cap cap' (Mem.has_push_new _ _) hl (by rw [newLoc_new]; exact hc)
  rw [newLoc_new] at this
  exact this
theorem aBox_run (h : Rel ι m w) {t : TypeId} {v u : Value} {m' : Mem} (hl : aBox P m t v = some (u, m')) {v' : Value} (hv : VRel m.Has ι v v') : Sim ι m w ((Instr.box t v').run P w) u m' := by
  unfold aBox at hl
  split at hl <;> first | (cases hl; done) | skip
  rename_i h1
  cases hl
  have hs : v.cells.toList.length = v'.cells.size := by rw [hv.cells.1]; simp
  obtain ⟨hR, hS⟩ := h.newCells (rest := []) (OneMore.alloc w (.cells v'.cells t)) (aStride P t) hv.cells.whole (by omega) h1 (.inl rfl) ⟨fun h0 _ => ⟨aStride_zero h0, rfl, hs.symm⟩, fun h0 => (aStride_buf h0).elim⟩
  exact ⟨.pointer (some ⟨w.heap.size, 0, none⟩), _, _, rfl, newPtr _ _, hR, hS⟩
theorem aAlloc_run (h : Rel ι m w) {t : TypeId} {u : Value} {m' : Mem} (hl : aAlloc P m t = some (u, m')) : Sim ι m w ((Instr.alloc t true (.tuple #[])).run P w) u m' := by
  unfold aAlloc at hl
  split at hl <;> first | (cases hl; done) | skip
  rename_i i hi
  split at hl <;> first | (cases hl; done) | skip
  rename_i z hz
  split at hl <;> first | (cases hl; done) | skip
  rename_i hf
  have := aBox_run h hl (flat_rel 3 z hf)
  have e : (Instr.alloc t true (.tuple #[])).run P w = (Instr.box t z).run P w := by
    simp [Instr.alloc, zeroValue, typeInfo, hi, hz, Instr.box]
  rw [e]; exact this
inductive PRel (n : Nat → Prop) (ι : Nat → Loc) : List (Nat × Value) → List (Nat × Value) → Prop
  | nil : PRel n ι [] []
  | cons (i : Nat) {v v' : Value} {ps qs : List (Nat × Value)} (h : VRel n ι v v') (hs : PRel n ι ps qs) : PRel n ι ((i, v) :: ps) ((i, v') :: qs)
theorem foldl_setA : ∀ (l : List Value) (k off : Nat) (C : Array Value), (l.zipIdx k).foldl (fun cs (p : Value × Nat) => cs.setIfInBounds (off + p.2) p.1) C = setA C (off + k) l
  | [], _, _, _ => rfl
  | v :: l, k, off, C => by
    rw [List.zipIdx_cons, List.foldl_cons, foldl_setA l (k + 1) off, setA]
    rfl
theorem aFill_run {n : Nat → Prop} {place place' : Nat → Option (Nat × Nat)} (hp : ∀ i, place' i = place i) : ∀ {ps qs : List (Nat × Value)} (_ : PRel n ι ps qs) {cs cs' : List Value} {C : Array Value}, VRels n ι cs C.toList → aFill place cs ps = some cs' →
    ∃ C', Instr.fill place' C qs = some C' ∧ VRels n ι cs' C'.toList := by
  intro ps qs hps
  induction hps with
  | nil => intro cs cs' C hr h; simp only [aFill, Option.some.injEq] at h; subst h; exact ⟨C, rfl, hr⟩
  | @cons i v v' ps qs hv _ ih =>
    intro cs cs' C hr h
    simp only [aFill] at h
    split at h <;> first | (cases h; done) | skip
    rename_i off size hpl
    split at h <;> first | (cases h; done) | skip
    rename_i hc
    have hl := hv.cells.1
    have e1 : v'.cells.toList.length = v'.cells.size := by simp
    have e2 : C.toList.length = C.size := by simp
    have hrl := hr.1
    have hsz : v'.cells.size = size := by omega
    have hbd : ¬ (off + v'.cells.size > C.size) := by omega
    have hset : VRels n ι (setL cs off v.cells.toList) (setA C off v'.cells.toList).toList := by
      rw [setA_toList]
      refine ⟨by rw [setL_length, setL_length]; exact hr.1, fun j x y hx hy => ?_⟩
      rw [setL_get _ _ _ _ (by omega)] at hx
      rw [setL_get _ _ _ _ (by omega)] at hy
      rw [← hl] at hy
      split at hx
      · rename_i hin; rw [if_pos hin] at hy; exact hv.cells.2 _ x y hx hy
      · rename_i hin; rw [if_neg hin] at hy; exact hr.2 j x y hx hy
    obtain ⟨C', h1, h2⟩ := ih hset h
    refine ⟨C', ?_, h2⟩
    have hfold : (v'.cells.zipIdx.foldl (fun cs (c, j) => cs.setIfInBounds (off + j) c) C) = setA C off v'.cells.toList := by
      have := foldl_setA v'.cells.toList 0 off C
      rw [Nat.add_zero] at this
      rw [← this, ← Array.foldl_toList, Array.toList_zipIdx]
    simp only [Instr.fill, hp, hpl, hsz, ne_eq, not_true, decide_false, Bool.false_or]
    rw [hsz] at hbd
    simp only [hbd, decide_false, Bool.false_eq_true, if_false]
    rw [hfold]
    exact h1
theorem aFill_one {place : Nat → Option (Nat × Nat)} : ∀ {ps : List (Nat × Value)} {cs cs' : List Value}, oneAll cs = true → ps.all (fun p => oneAll p.2.cells.toList) = true → aFill place cs ps = some cs' → oneAll cs' = true := by
  intro ps
  induction ps with
  | nil => intro cs cs' h _ hf; simp only [aFill, Option.some.injEq] at hf; subst hf; exact h
  | cons p ps ih =>
    intro cs cs' h hp hf
    obtain ⟨i, v⟩ := p
    simp only [aFill] at hf
    split at hf <;> first | (cases hf; done) | skip
    split at hf <;> first | (cases hf; done) | skip
    rename_i hc
    simp only [List.all_cons, Bool.and_eq_true] at hp
    refine ih ?_ hp.2 hf
    simp only [oneAll, List.all_eq_true] at h hp ⊢
    intro x hx
    obtain ⟨j, hj, rfl⟩ := List.getElem_of_mem hx
    have hg := List.getElem?_eq_getElem hj
    rw [setL_get _ _ _ _ hc.2] at hg
    split at hg
    · exact hp.1 _ (List.mem_of_getElem? hg)
    · exact h _ (List.mem_of_getElem? hg)
theorem aBuild_run {n : Nat → Prop} {t : TypeId} {ps : List (Nat × Value)} {v : Value} (hl : aBuild P t ps = some v) {qs : Array (Nat × Value)} (hp : PRel n ι ps qs.toList) : ∃ v', (∀ w, (Instr.build t qs).run P w = .ok v' w) ∧ VRel n ι v v' := by
  unfold aBuild at hl
  split at hl <;> first | (cases hl; done) | skip
  rename_i it hit
  split at hl <;> first | (cases hl; done) | skip
  rename_i z hz
  split at hl <;> first | (cases hl; done) | skip
  rename_i hf
  have hzr : VRels n ι z.cells.toList z.cells.toList := (flat_rel (n := n) (ι := ι) 3 z hf).cells
  split at hl <;> first | (cases hl; done) | skip
  · rename_i fs hu
    split at hl <;> first | (cases hl; done) | skip
    rename_i places hpl
    split at hl <;> first | (cases hl; done) | skip
    rename_i cs hfill
    have hl := Option.some.inj hl
    subst hl
    obtain ⟨C', h1, h2⟩ := aFill_run (place' := (places.toArray[·]?)) (fun i => by simp) hp hzr hfill
    refine ⟨.agg C', fun w => run_build w t qs C' ?_, .aggs (by simpa using h2)⟩
    unfold Program.built
    simp only [hit, hu, hz]
    unfold aPlaces at hpl
    simp only [hpl]
    exact h1
  · rename_i N e hu
    split at hl <;> first | (cases hl; done) | skip
    rename_i ie hie
    split at hl <;> first | (cases hl; done) | skip
    rename_i cs hfill
    have hl := Option.some.inj hl
    subst hl
    obtain ⟨C', h1, h2⟩ := aFill_run (place' := fun i => some (i * ie.size, ie.size)) (fun i => rfl) hp hzr hfill
    refine ⟨.agg C', fun w => run_build w t qs C' ?_, .aggs (by simpa using h2)⟩
    unfold Program.built
    simp only [hit, hu, hz, hie]
    exact h1
theorem aZeros_eq {z : Array Value} {n : Nat} (h : 0 < z.size) : aZeros z.toList n = (madeCells z n).toList := by
  have hm : (madeCells z n).toList = (List.range n).map fun i => (z.toList[i % z.toList.length]?).getD default := by
    unfold madeCells
    rw [Array.toList_map, Array.toList_range]
    apply List.map_congr_left
    intro i _
    have hlt : i % z.size < z.size := Nat.mod_lt _ h
    simp [hlt]
  rw [hm]
  unfold aZeros
  split
  · rename_i v hv
    apply List.ext_getElem?
    intro i
    rw [List.getElem?_map, List.getElem?_replicate]
    rw [hv]
    by_cases hi : i < n
    · simp [hi, Nat.mod_one]
    · simp [hi]
  · rfl
theorem aZeros_length (z : List Value) (n : Nat) : (aZeros z n).length = n := by
  unfold aZeros
  split <;> simp
theorem aFill_length {place : Nat → Option (Nat × Nat)} : ∀ {ps : List (Nat × Value)} {cs cs' : List Value}, aFill place cs ps = some cs' → cs'.length = cs.length := by
  intro ps
  induction ps with
  | nil => intro cs cs' hf; simp only [aFill, Option.some.injEq] at hf; rw [hf]
  | cons p ps ih =>
    intro cs cs' hf
    obtain ⟨i, v⟩ := p
    simp only [aFill] at hf
    split at hf <;> first | (cases hf; done) | skip
    split at hf <;> first | (cases hf; done) | skip
    rw [ih hf, setL_length]
theorem aZeros_one {z : List Value} {n : Nat} (hz : 0 < z.length) (h : oneAll z = true) : oneAll (aZeros z n) = true := by
  unfold aZeros
  split
  · simp only [oneAll, List.all_cons, List.all_nil, Bool.and_true, List.all_replicate] at h ⊢
    simp [h]
  · simp only [oneAll, List.all_eq_true, List.mem_map] at h ⊢
    rintro x ⟨i, _, rfl⟩
    have hlt : i % z.length < z.length := Nat.mod_lt _ hz
    rw [List.getElem?_eq_getElem hlt]
    exact h _ (List.getElem_mem _)
theorem aZeros_rel {n : Nat → Prop} {z : List Value} (k : Nat) (h : VRels n ι z z) : VRels n ι (aZeros z k) (aZeros z k) := by
  refine ⟨rfl, fun i x y hx hy => ?_⟩
  rw [hx] at hy
  cases hy
  unfold aZeros at hx
  split at hx
  · rename_i v
    have : x = v := by
      have := List.mem_of_getElem? hx
      rw [List.mem_replicate] at this
      exact this.2
    subst this
    exact h.2 0 x x rfl rfl
  · rw [List.getElem?_map, Option.map_eq_some_iff] at hx
    obtain ⟨j, hj, rfl⟩ := hx
    cases hg : z[j % z.length]? with
    | none => exact .bool false
    | some u => exact h.2 _ u u hg hg
theorem run_buildSlice' (w : World) (t e : TypeId) (len : Nat) (parts : Array (Nat × Value)) (cells : Array Value) (ie : TypeInfo) (z : Value)
    (hu : P.underlying t = some (.slice e)) (hie : P.info? e = some ie) (hz : ie.zero = some z) (hsmall : ¬ len * ie.size > 2 ^ 24)
    (h : Instr.fill (fun i => some (i * ie.size, ie.size)) ((Array.range (len * ie.size)).map (z.cells[· % z.cells.size]!)) parts.toList = some cells) :
    (Instr.buildSlice t len parts).run P w = .ok (.slice (some ⟨w.heap.size, 0, none⟩) len len) (w.alloc (.cells cells e)) := by
  by_cases hpos : len * ie.size = 0
  · have e0 : (Array.range (len * ie.size)).map (z.cells[· % z.cells.size]!) = #[] := by rw [hpos]; simp
    rw [e0] at h
    have e1 : ∀ f : Nat → Value, Array.map f (Array.range 0) = #[] := fun f => by simp
    simp [Instr.buildSlice, run_underlying hu, sizeOf, typeInfo, zeroValue, hie, hz, hsmall, hpos, h, e1, newRow]
  · exact run_buildSlice w t e len parts cells ie z hu hie hz hsmall hpos h
theorem aBuildSlice_run (h : Rel ι m w) {t : TypeId} {len : Nat} {ps : List (Nat × Value)} {u : Value} {m' : Mem} (hl : aBuildSlice P m t len ps = some (u, m')) {qs : Array (Nat × Value)} (hp : PRel m.Has ι ps qs.toList) :
    Sim ι m w ((Instr.buildSlice t len qs).run P w) u m' := by
  unfold aBuildSlice at hl
  split at hl <;> first | (cases hl; done) | skip
  rename_i e hu
  split at hl <;> first | (cases hl; done) | skip
  rename_i ie hie
  split at hl <;> first | (cases hl; done) | skip
  rename_i z hz
  split at hl <;> first | (cases hl; done) | skip
  rename_i hc
  obtain ⟨hf, hsm, hzp, hz1, hp1⟩ := hc
  split at hl <;> first | (cases hl; done) | skip
  rename_i cs hfill
  cases hl
  have hzs : 0 < z.cells.size := by simpa using hzp
  have hzr : VRels m.Has ι (aZeros z.cells.toList (len * ie.size)) (madeCells z.cells (len * ie.size)).toList := by
    rw [← aZeros_eq hzs]
    exact aZeros_rel _ (flat_rel (n := m.Has) (ι := ι) 3 z hf).cells
  obtain ⟨C', h1, h2⟩ := aFill_run (place' := fun i => some (i * ie.size, ie.size)) (fun i => rfl) hp hzr hfill
  have hr := run_buildSlice' (P := P) w t e len qs C' ie z hu hie hz (by omega) h1
  have hlen := h2.1
  have e2 : C'.toList.length = C'.size := by simp
  obtain ⟨hR, hS⟩ := h.newCells (rest := []) (OneMore.alloc w (.cells C' e)) ie.size h2.whole (by omega) (aFill_one (aZeros_one hzp hz1) hp1 hfill) (.inl rfl) (.row len (by rw [aFill_length hfill, aZeros_length]))
  exact ⟨_, _, _, hr, newSlice _ ⟨w.heap.size, 0, C'.size, ie.size⟩ _ _ _ (Nat.le_refl _) (.inl rfl), hR, hS⟩
theorem aMakeSlice_run (h : Rel ι m w) {t : TypeId} {l c u : Value} {m' : Mem} (hl : aMakeSlice P m t l c = some (u, m')) {l' c' : Value} (hlr : VRel m.Has ι l l') (hcr : VRel m.Has ι c c') :
    Sim ι m w ((Instr.makeSlice t l' c').run P w) u m' := by
  unfold aMakeSlice at hl
  split at hl <;> first | (cases hl; done) | skip
  rename_i e hu
  split at hl <;> first | (cases hl; done) | skip
  rename_i ie hie
  split at hl <;> first | (cases hl; done) | skip
  rename_i z hz
  split at hl <;> first | (cases hl; done) | skip
  rename_i kl l kc c
  split at hl <;> first | (cases hl; done) | skip
  rename_i hc
  obtain ⟨hf, hzp, hz1, h0, hlc, hb, hc48⟩ := hc
  cases hl
  cases hlr; cases hcr
  have hzs : 0 < z.cells.size := by simpa using hzp
  have hr := run_make (P := P) w t e ie z hu hie hz kl kc l c h0 hlc hb (by omega)
  have hzr : VRels m.Has ι (aZeros z.cells.toList (c.toNat * ie.size)) (madeCells z.cells (c.toNat * ie.size)).toList := by
    rw [← aZeros_eq hzs]
    exact aZeros_rel _ (flat_rel (n := m.Has) (ι := ι) 3 z hf).cells
  have e2 : (madeCells z.cells (c.toNat * ie.size)).toList.length = (madeCells z.cells (c.toNat * ie.size)).size := by simp
  have hlen := hzr.1
  obtain ⟨hR, hS⟩ := h.newCells (rest := []) (OneMore.alloc w (.cells (madeCells z.cells (c.toNat * ie.size)) e)) ie.size hzr.whole (by omega) (aZeros_one hzp hz1) (.inl rfl) (.row c.toNat (by rw [hlen]; simp [madeCells]))
  exact ⟨_, _, _, hr, newSlice _ ⟨w.heap.size, 0, _, ie.size⟩ _ _ _ (by omega) (.inl rfl), hR, hS⟩
theorem byteCells'_rel (s : ByteArray) (n : Nat → Prop) : VRels n ι (byteCells' s) (byteCells' s) := by
  refine ⟨rfl, fun i x y hx hy => ?_⟩
  rw [hx] at hy
  cases hy
  unfold byteCells' at hx
  rw [List.getElem?_map, Option.map_eq_some_iff] at hx
  obtain ⟨b, _, rfl⟩ := hx
  exact .int _ _
theorem byteCells'_one (s : ByteArray) : oneAll (byteCells' s) = true := by
  simp only [oneAll, byteCells', List.all_map, List.all_eq_true]
  intro b _
  rfl
theorem byteCells'_length (s : ByteArray) : (byteCells' s).length = s.size := by simp [byteCells']
theorem aToBytes_run (h : Rel ι m w) {src dst : TypeId} {s : ByteArray} {u : Value} {m' : Mem} (hl : aToBytes P m src dst s = some (u, m')) : Sim ι m w ((convert src dst (.string s)).run P w) u m' := by
  unfold aToBytes at hl
  split at hl <;> first | (cases hl; done) | skip
  rename_i hs
  split at hl <;> first | (cases hl; done) | skip
  rename_i e hd
  split at hl <;> first | (cases hl; done) | skip
  rename_i he
  split at hl <;> first | (cases hl; done) | skip
  rename_i hbs
  rw [bsize_eq] at hbs
  cases hl
  have hr := run_bytes_of_string (P := P) w src dst e s hs hd he
  have hge := grownCap_ge w s.size 0 e
  have hmx := grownCap_le_maxLen w s.size 0 e (by simp only [maxLen]; omega)
  generalize grownCap w s.size 0 e = cap at *
  have hsz : (bytesRow s cap).size = cap := by
    unfold bytesRow
    simp
    omega
  have htl : (bytesRow s cap).toList.take (byteCells' s).length = byteCells' s := by
    unfold bytesRow byteCells'
    rw [Array.toList_append, Array.toList_map, List.take_left']
    rfl
  obtain ⟨hR, hS⟩ := h.newCells (cs := byteCells' s) (rest := []) (OneMore.drewAlloc w (.cells (bytesRow s cap) e ((bytesRow s cap).size, (bytesRow s cap).size + 1))) 1 (by rw [htl]; exact byteCells'_rel s _) (by rw [byteCells'_length, hsz]; exact hge) (byteCells'_one s) (.inr (Nat.le_refl _)) .one
  rw [bsize_eq]
  exact ⟨_, _, _, hr, newSlice _ ⟨w.heap.size, 0, _, 1⟩ _ _ _ (Nat.le_refl _) (.inr ⟨hge, by simp only; omega, hmx⟩), hR, hS⟩
theorem cellBytes_spec : ∀ {cs : List Value} {l : List UInt8}, cellBytes cs = some l → ∃ ns : List Int, cs = ns.map (Value.int .u8) ∧ l = ns.map fun n => UInt8.ofNat n.toNat
  | [], l, h => by cases h; exact ⟨[], rfl, rfl⟩
  | v :: r, l, h => by
    unfold cellBytes at h
    split at h <;> first | (cases h; done) | skip
    · rename_i he; cases he
    · rename_i n r' he
      cases he
      split at h <;> first | (cases h; done) | skip
      rename_i l' hr
      cases h
      obtain ⟨ns, h1, h2⟩ := cellBytes_spec hr
      exact ⟨n :: ns, by rw [h1]; rfl, by rw [h2]; rfl⟩
theorem rel_ints {n : Nat → Prop} {k : IntKind} {ns : List Int} {us : List Value} (h : VRels n ι (ns.map (Value.int k)) us) : us = ns.map (Value.int k) := by
  apply List.ext_getElem?
  intro i
  cases hx : (ns.map (Value.int k))[i]? with
  | none =>
    have := h.1
    rw [List.getElem?_eq_none_iff] at hx ⊢
    omega
  | some x =>
    obtain ⟨y, hy, hr⟩ := h.get hx
    rw [hy]
    rw [List.getElem?_map, Option.map_eq_some_iff] at hx
    obtain ⟨z, _, rfl⟩ := hx
    cases hr
    rfl
theorem foldl_bytes : ∀ (ns : List Int) (a : ByteArray), (ns.foldl (fun r n => r.push (UInt8.ofNat n.toNat)) a) = ⟨⟨a.data.toList ++ ns.map fun n => UInt8.ofNat n.toNat⟩⟩
  | [], a => by simp
  | n :: ns, a => by
    rw [List.foldl_cons, foldl_bytes ns]
    simp [ByteArray.push]
theorem Rel.stretch (h : Rel ι m w) {b : Nat} {ro : Bool} {s : Nat} {cs : List Value} (hb : m.get b = some (.cells ro s cs)) (o k : Nat) (hle : o + k ≤ cs.length) : ∃ us : List Value, VRels m.Has ι ((cs.drop o).take k) us ∧ us.length = k ∧
    (∀ j u, us[j]? = some u → w.cell? ⟨(ι b).blk, (ι b).base + o + j, none⟩ = some u) ∧ (∀ u ∈ us, u.oneCell' = true) ∧ oneAll ((cs.drop o).take k) = true := by
  obtain ⟨C, e, fz, hC, hsz, hst, hlen, hv, hfz⟩ := h.at' b ro s cs hb
  have hr := ((VRels.toL hlen fun i v hi => (hv i v hi).2).drop o).take k
  have hone : oneAll ((cs.drop o).take k) = true := by
    simp only [oneAll, List.all_eq_true]
    intro x hx
    have hx' := List.mem_of_mem_drop (List.mem_of_mem_take hx)
    obtain ⟨j, hj, rfl⟩ := List.getElem_of_mem hx'
    exact (hv j _ (List.getElem?_eq_getElem hj)).1
  refine ⟨_, hr, by rw [← hr.1]; simp; omega, fun j u hj => ?_, fun u hu => ?_, hone⟩
  · rw [cell_of_block hC]
    rw [List.getElem?_take] at hj
    split at hj
    · rw [List.getElem?_drop, List.getElem?_take] at hj
      split at hj
      · rw [List.getElem?_drop, Array.getElem?_toList] at hj
        rw [← hj, Nat.add_assoc]
      · cases hj
    · cases hj
  · obtain ⟨j, hj, rfl⟩ := List.getElem_of_mem hu
    have hj2 : j < ((cs.drop o).take k).length := by rw [hr.1]; exact hj
    have := hr.2 j _ _ (List.getElem?_eq_getElem hj2) (List.getElem?_eq_getElem hj)
    rw [this.one]
    exact oneAll_spec hone _ (List.getElem_mem _)
theorem aToString_run (h : Rel ι m w) {src dst : TypeId} {x v : Value} (hl : aToString P m src dst x = some v) {x' : Value} (hx : VRel m.Has ι x x') : ∃ v', (convert src dst x').run P w = .ok v' w ∧ VRel m.Has ι v v' := by
  unfold aToString at hl
  split at hl <;> first | (cases hl; done) | skip
  rename_i e hs
  split at hl <;> first | (cases hl; done) | skip
  rename_i hd
  split at hl <;> first | (cases hl; done) | skip
  rename_i he
  split at hl <;> first | (cases hl; done) | skip
  · cases hx
    have hl := Option.some.inj hl
    subst hl
    exact ⟨.string .empty, by simp [convert, run_underlying hs, run_underlying hd, run_underlying he, Conv.bytesToString], .string _⟩
  · rename_i b o n c
    split at hl <;> first | (cases hl; done) | skip
    rename_i ro s cs hb
    split at hl <;> first | (cases hl; done) | skip
    rename_i hle
    split at hl <;> first | (cases hl; done) | skip
    rename_i l hcb
    have hl := Option.some.inj hl
    subst hl
    obtain ⟨ns, h1, h2⟩ := cellBytes_spec hcb
    obtain ⟨us, hr, hul, hcell, _, _⟩ := h.stretch hb o n hle
    rw [h1] at hr
    have hus := rel_ints hr
    subst hus
    refine ⟨.string ⟨⟨l⟩⟩, ?_, .string _⟩
    have fin : ∀ (a : Addr) (cap' : Nat), (loadCells a n).run P w = .ok (ns.map (Value.int .u8)).toArray w → (convert src dst (.slice (some a) n cap')).run P w = .ok (.string ⟨⟨l⟩⟩) w := by
      intro a cap' hld
      have := run_bytesToString (P := P) w a n cap' ns hld
      rw [foldl_bytes] at this
      simp [convert, run_underlying hs, run_underlying hd, run_underlying he, this, h2]
    cases hx with
    | slice _ _ _ _ cap' hlt hl hc =>
      apply fin
      have := run_loadCells_list (P := P) w ⟨(ι b).blk, (ι b).base + o, none⟩ (ns.map (Value.int .u8)) fun j u hj => by rw [Addr_add]; exact hcell j u hj
      rw [hul] at this
      exact this
    | empty _ _ o' hlt =>
      apply fin
      have hn : ns = [] := by simpa using hul
      subst hn
      rfl
theorem aSrc_run (h : Rel ι m w) {tx : TypeId} {size n : Nat} {x : Value} {news : List Value} (hl : aSrc P m tx size x = some (n, news)) {x' : Value} (hx : VRel m.Has ι x x') :
    ∃ us, Src P size tx x' n us w ∧ VRels m.Has ι news us ∧ oneAll news = true := by
  unfold aSrc at hl
  split at hl <;> first | (cases hl; done) | skip
  · rename_i e hk
    split at hl <;> first | (cases hl; done) | skip
    · cases hl
      cases hx
      exact ⟨[], Src.ofNil w hk 0, .nil, rfl⟩
    · rename_i b o k c
      split at hl <;> first | (cases hl; done) | skip
      rename_i ro s cs hb
      split at hl <;> first | (cases hl; done) | skip
      rename_i hle
      cases hl
      obtain ⟨us, hr, hul, hcell, hone, hone'⟩ := h.stretch hb o (n * size) hle
      refine ⟨us, ?_, hr, hone'⟩
      cases hx with
      | slice _ _ _ _ cap' hlt hl hc => exact Src.ofSlice w hk _ _ _ us hul (fun j u hj => by rw [Addr_add]; exact hcell j u hj) hone
      | empty _ _ o' hlt =>
        have : us = [] := by simpa using hul
        subst this
        exact Src.ofSlice w hk _ _ _ [] (by simp) (fun j u hj => by simp at hj) (fun u hu => by cases hu)
  · rename_i hk
    split at hl <;> first | (cases hl; done) | skip
    rename_i s
    split at hl <;> first | (cases hl; done) | skip
    rename_i hs1
    cases hl
    cases hx
    subst hs1
    rw [bsize_eq]
    refine ⟨byteCells' s, ?_, byteCells'_rel s _, byteCells'_one s⟩
    exact Src.ofString w hk s
end sim
end Go.Proofs.YtfdijpacbhomjaaGreatDoor.Abs
namespace Go.Proofs.YtfdijpacbhomjaaGreatDoor.Abs
open Go
section sim
variable {P : Program} {ι : Nat → Loc} {m : Mem} {w : World}
theorem oneAll_append {a b : List Value} (ha : oneAll a = true) (hb : oneAll b = true) : oneAll (a ++ b) = true := by
  simp only [oneAll, List.all_append, Bool.and_eq_true] at *
  exact ⟨ha, hb⟩
theorem Rel.goesOn (h : Rel ι m w) {b s : Nat} {cs : List Value} (hb : m.get b = some (.cells false s cs)) (o k : Nat) (hok : o + k ≤ cs.length) (vs us : List Value) (hbd : (ι b).base + o + k + vs.length ≤ (ι b).size)
    (h1 : oneAll vs = true) (hr : VRels m.Has ι vs us) (q : Nat) (htg : k + vs.length = q * s) :
    Rel (newLoc ι m.size ⟨(ι b).blk, (ι b).base + o, (ι b).size, s⟩) ((m.set b none).push (.cells false s ((cs.drop o).take k ++ vs))) (w.setCells (ι b).blk ((ι b).base + o + k) us) ∧
    Step ι m w (newLoc ι m.size ⟨(ι b).blk, (ι b).base + o, (ι b).size, s⟩) ((m.set b none).push (.cells false s ((cs.drop o).take k ++ vs))) (w.setCells (ι b).blk ((ι b).base + o + k) us) := by
  obtain ⟨C, e, fz, hC, hsz, hst, hlen, hv, hfz⟩ := h.at' b false s cs hb
  have hheap := heap_setCells us w (ι b).blk ((ι b).base + o + k) C e fz hC
  obtain ⟨hs1, hs2, hs3, hs4⟩ := setCells_rest us w (ι b).blk ((ι b).base + o + k)
  have hul : us.length = vs.length := hr.1.symm
  have hCl : C.toList.length = C.size := by simp
  -- the other blocks, in the world behind
  have hk : Rel ι (m.set b none) (w.setCells (ι b).blk ((ι b).base + o + k) us) := by
    have hk := h.kill b
    have hbg := h.glob.own b (.of hb)
    refine ⟨fun c ro' s' cs' hc => ?_, fun c x hc => ?_, hk.inj, ⟨hk.glob.known.keep fun g hg => heap_setCells_ne _ _ _ _ _ (by omega), hk.glob.own⟩⟩
    rotate_left
    · have k1 := hk.oth c x hc
      obtain ⟨hc', hne⟩ := get_of_set_none hc
      rw [heap_setCells_ne _ _ _ _ _ (h.inj c b (by rw [hc']; simp) (.of hb) (Ne.symm hne))]
      exact k1
    obtain ⟨C', e', fz', k1, k2⟩ := hk.at' c ro' s' cs' hc
    obtain ⟨hc', hne⟩ := get_of_set_none hc
    refine ⟨C', e', fz', ?_, k2⟩
    rw [heap_setCells_ne _ _ _ _ _ (h.inj c b (by rw [hc']; simp) (.of hb) (Ne.symm hne))]
    exact k1
  have e0 : (m.set b none).size = m.size := by simp
  have hp := hk.push false ⟨(ι b).blk, (ι b).base + o, (ι b).size, s⟩ ((cs.drop o).take k ++ vs) (setA C ((ι b).base + o + k) us) e fz hheap (by rw [setA_size]; exact hsz)
    (by rw [setA_size, hsz]; simp; omega)
    (fun i v hi => by
      rw [← Array.getElem?_toList, setA_toList, setL_get _ _ _ _ (by simp only [hCl]; omega)]
      have up : ∀ {v v' : Value}, VRel m.Has ι v v' → VRel (m.set b none).Has ι v v' := fun hv => hv.mono (fun _ hc => Mem.has_set _ hc) fun _ _ => rfl
      simp only
      rw [List.getElem?_append] at hi
      have htl : ((cs.drop o).take k).length = k := by simp; omega
      rw [htl] at hi
      split at hi
      · rename_i hlt
        rw [if_neg (by omega), Array.getElem?_toList]
        rw [List.getElem?_take, if_pos hlt, List.getElem?_drop] at hi
        rw [Nat.add_assoc]
        obtain ⟨k1, v', k2, k3⟩ := hv (o + i) v hi
        exact ⟨k1, v', k2, up k3⟩
      · rename_i hge
        have hi' := (List.getElem?_eq_some_iff.1 hi).1
        rw [if_pos (by omega), show (ι b).base + o + i - ((ι b).base + o + k) = i - k by omega]
        obtain ⟨y, hy1, hy2⟩ := hr.get hi
        exact ⟨oneAll_spec h1 v (List.mem_of_getElem? hi), y, hy1, up hy2⟩)
    (fun i hi => hfz rfl i (by rwa [setA_size] at hi))
    (fun c hc => by
      cases hx : (m.set b none).get c with
      | none => exact absurd hx hc
      | some x =>
        obtain ⟨hc', hne⟩ := get_of_set_none hx
        exact h.inj c b (by rw [hc']; simp) (.of hb) (Ne.symm hne))
    (fun _ => h.glob.own b (.of hb))
    (.row q (by rw [List.length_append, List.length_take, List.length_drop, Nat.min_eq_left (by omega)]; exact htg))
  rw [e0] at hp
  refine ⟨hp, hs2, hs3, hs4, by rw [hs1]; exact Nat.le_refl _, fun c hc => Mem.has_push _ (Mem.has_set _ hc), fun c hc => newLoc_old _ (Mem.has_lt hc), ?_, ?_⟩
  · intro g _ hg
    exact heap_setCells_ne _ _ _ _ _ fun e => hg b (.of hb) e.symm
  · intro c hc
    obtain ⟨y, ho, hy⟩ := hc
    rcases Mem.get_push ho with ⟨h1, h2⟩ | ⟨h1, _⟩
    · rw [e0] at h1
      exact .inr ⟨c, own_of_set_none ⟨y, h2, hy⟩, by rw [newLoc_old _ h1]⟩
    · rw [e0] at h1
      subst h1
      rw [newLoc_new]
      exact .inr ⟨b, (.of hb), rfl⟩
theorem aAppend_run (h : Rel ι m w) {t tx ty : TypeId} {s x u : Value} {m' : Mem} (hl : aAppend P m t tx s x = some (u, m')) {s' x' : Value} (hs : VRel m.Has ι s s') (hx : VRel m.Has ι x x') :
    Sim ι m w ((Builtin.append_ #[t, tx] ty #[s', x']).run P w) u m' := by
  unfold aAppend at hl
  split at hl <;> first | (cases hl; done) | skip
  rename_i e ht
  split at hl <;> first | (cases hl; done) | skip
  rename_i i hi
  split at hl <;> first | (cases hl; done) | skip
  rename_i z hz
  split at hl <;> first | (cases hl; done) | skip
  rename_i hzl
  have hzs : z.cells.size = i.size := by simpa using hzl
  split at hl <;> first | (cases hl; done) | skip
  rename_i n news hsrc
  obtain ⟨us, hS, hr, hone⟩ := aSrc_run h hsrc hx
  have hun : us.length = n * i.size := hS.newsLen
  have hnn : news.length = n * i.size := by rw [hr.1, hun]
  split at hl <;> first | (cases hl; done) | skip
  · -- onto nothing
    cases hs
    split at hl
    · rename_i hn0
      cases hl
      subst hn0
      refine Sim.pure h (v' := .slice none 0 0) ?_ .nilSlice
      have hus : us = [] := List.eq_nil_of_length_eq_zero (by omega)
      subst hus
      rcases hS.kind with ⟨e', hk⟩ | hk <;> simp [Builtin.append_, run_underlying ht, run_underlying hk, run_sizeOf' hi, hS.len, hS.cells]
    · rename_i hn0
      split at hl <;> first | (cases hl; done) | skip
      rename_i hb
      cases hl
      have hg := run_append_grow_src (P := P) w t tx ty e i z ht hi hz none 0 0 [] (run_firstCells_none w.drew i.size 0 0 0) x' n us hS (by omega) (by omega) (growslice_fits (by omega) (by simpa using hb.1))
      rw [Nat.zero_add] at hg
      generalize hcap : grownCap w n 0 e = cap at hg
      have hge : n ≤ cap := by rw [← hcap]; exact grownCap_ge w n 0 e
      generalize hC : (([] ++ us).toArray ++ Builtin.zeroCells z.cells (cap - n)) = C at hg
      have htk : C.toList.take us.length = us := by subst hC; simp
      have hCs : C.size = us.length + (Builtin.zeroCells z.cells (cap - n)).size := by subst hC; simp
      obtain ⟨hR, hSt⟩ := h.newCells (cs := news) (rest := []) (OneMore.drewAlloc w (.cells C e)) i.size (by rw [hr.1, htk]; exact hr) (by rw [hr.1]; omega) hone (.inl rfl) (.row n hnn)
      have hz2 : (Builtin.zeroCells z.cells (cap - n)).size = (cap - n) * i.size := by simp [Builtin.zeroCells, hzs]
      refine ⟨_, _, _, hg, newSlice _ ⟨w.heap.size, 0, C.size, i.size⟩ _ _ _ (Nat.le_refl _) (.inr ⟨hge, ?_, by rw [← hcap]; exact grownCap_le_maxLen w n 0 e (by simp only [maxLen]; omega)⟩), hR, hSt⟩
      have e1 : cap * i.size = n * i.size + (cap - n) * i.size := by rw [← Nat.add_mul]; congr 1; omega
      simp only
      omega
  · rename_i b o len cap
    split at hl
    · -- nothing is appended
      rename_i hn0
      cases hl
      subst hn0
      have hus : us = [] := List.eq_nil_of_length_eq_zero (by omega)
      subst hus
      have hsame : ∀ (a : Addr) (cap' : Nat), len ≤ cap' → (Builtin.append_ #[t, tx] ty #[.slice (some a) len cap', x']).run P w = .ok (.slice (some a) len cap') w := by
        intro a cap' hle
        rcases hS.kind with ⟨e', hk⟩ | hk <;> simp [Builtin.append_, run_underlying ht, run_underlying hk, run_sizeOf' hi, hS.len, hS.cells, hle, storeCells]
      cases hs with
      | slice _ _ _ _ cap' hlt hll hc => exact Sim.pure h (hsame _ cap' (by rcases hc with hc | hc <;> omega)) (.slice b o len cap cap' hlt hll hc)
      | empty _ _ o' hlt => exact Sim.pure h (hsame _ 0 (Nat.le_refl _)) (.empty b o o' hlt)
    rename_i hn0
    split at hl <;> first | (cases hl; done) | skip
    rename_i st cs hb
    obtain ⟨C, eC, fz, hC, hsz, hst, hlen, hv, hfz⟩ := h.at' b false st cs hb
    have hnpos : 0 < n := Nat.pos_of_ne_zero hn0
    split at hl
    · -- in its room
      rename_i hroom
      split at hl <;> first | (cases hl; done) | skip
      rename_i hfit
      cases hl
      cases hs with
      | slice _ _ _ _ cap' hlt hll hc =>
        have hcc : cap ≤ cap' := by rcases hc with hc | hc <;> omega
        obtain ⟨hR, hSt⟩ := h.write hb (o + len * i.size) news us hfit (oneAll_spec hone) hr
        rw [← Nat.add_assoc] at hR hSt
        have hrun := run_append_room_src (P := P) w t tx ty e i ht hi (ι b).blk ((ι b).base + o) len cap' x' n us hS (by omega)
          (fun j hj => by rw [cell_of_block hC]; simp; omega) (fun j hj => frozen_of_block hC (hfz rfl _ (by omega)))
        exact ⟨_, _, _, hrun, .slice b o (len + n) cap cap' (Mem.has_set _ hlt) hroom hc, hR, hSt⟩
      | empty _ _ o' hlt => exfalso; omega
    · rename_i hroom
      split at hl <;> first | (cases hl; done) | skip
      rename_i hcond
      obtain ⟨hfit, hsti, hby, hby2⟩ := hcond
      cases hl
      subst hsti
      -- grown
      have grown : ∀ (a : Addr) (cap' : Nat), cap' < len + n → (∀ j u, (((C.toList.drop (ι b).base).take cs.length).drop o |>.take (len * i.size))[j]? = some u → w.cell? (a.add j) = some u) →
          Sim ι m w ((Builtin.append_ #[t, tx] ty #[.slice (some a) len cap', x']).run P w) (.slice (some ⟨m.size, 0, none⟩) (len + n) (len + n)) ((m.set b none).push (.cells false i.size ((cs.drop o).take (len * i.size) ++ news))) := by
        intro a cap' hcap' hcell
        have hol := ((VRels.toL hlen fun i v hi => (hv i v hi).2).drop o).take (len * i.size)
        generalize hO : (((C.toList.drop (ι b).base).take cs.length).drop o |>.take (len * i.size)) = olds at *
        have holen : olds.length = len * i.size := by rw [← hol.1]; simp; omega
        have hg := run_append_grow_src (P := P) w t tx ty e i z ht hi hz (some a) len cap' olds (run_firstCells_some w.drew i.size len a len cap' olds holen (by simpa using hcell)) x' n us hS hcap' (by omega) (growslice_fits hcap' hby)
        generalize hcap : grownCap w (len + n) cap' e = k at hg
        have hge : len + n ≤ k := by rw [← hcap]; exact grownCap_ge w _ _ e
        generalize hCC : ((olds ++ us).toArray ++ Builtin.zeroCells z.cells (k - (len + n))) = CC at hg
        have hall : VRels m.Has ι ((cs.drop o).take (len * i.size) ++ news) (olds ++ us) := hol.append hr
        have htk : CC.toList.take (olds ++ us).length = olds ++ us := by subst hCC; simp [← List.append_assoc]
        have hCs : CC.size = (olds ++ us).length + (Builtin.zeroCells z.cells (k - (len + n))).size := by subst hCC; simp
        have hz2 : (Builtin.zeroCells z.cells (k - (len + n))).size = (k - (len + n)) * i.size := by simp [Builtin.zeroCells, hzs]
        have hone2 : oneAll ((cs.drop o).take (len * i.size) ++ news) = true := by
          obtain ⟨_, _, _, _, _, h5⟩ := h.stretch hb o (len * i.size) hfit
          exact oneAll_append h5 hone
        have e0 : (m.set b none).size = m.size := by simp
        obtain ⟨hR, hSt⟩ := (h.kill b).newCells (cs := (cs.drop o).take (len * i.size) ++ news) (rest := []) (OneMore.drewAlloc w (.cells CC e)) i.size (by rw [hall.1, htk]; exact hall.mono (fun _ hc => Mem.has_set _ hc) fun _ _ => rfl) (by rw [hall.1]; omega) hone2 (.inl rfl) (.row (len + n) (by rw [hall.1, List.length_append, holen, hun, Nat.add_mul]))
        rw [e0] at hR hSt
        have hns := newSlice (m := m.set b none) (ι := ι) (.cells false i.size ((cs.drop o).take (len * i.size) ++ news)) ⟨w.heap.size, 0, CC.size, i.size⟩ (len + n) (len + n) k (Nat.le_refl _) (.inr ⟨hge, by
          have e1 : k * i.size = (len + n) * i.size + (k - (len + n)) * i.size := by rw [← Nat.add_mul]; congr 1; omega
          have e2 : (olds ++ us).length = (len + n) * i.size := by rw [List.length_append, holen, hun, Nat.add_mul]
          simp only
          omega, by rw [← hcap]; exact grownCap_le_maxLen w _ _ e (by simp only [maxLen]; omega)⟩)
        rw [e0] at hns
        exact ⟨_, _, _, hg, hns, hR, (Step.kill b).trans hSt⟩
      have cellsAt : ∀ j u, (((C.toList.drop (ι b).base).take cs.length).drop o |>.take (len * i.size))[j]? = some u → w.cell? ((⟨(ι b).blk, (ι b).base + o, none⟩ : Addr).add j) = some u := by
        intro j u hj
        rw [Addr_add, cell_of_block hC]
        rw [List.getElem?_take] at hj
        split at hj
        · rw [List.getElem?_drop, List.getElem?_take] at hj
          split at hj
          · rw [List.getElem?_drop, Array.getElem?_toList] at hj
            rw [← hj, Nat.add_assoc]
          · cases hj
        · cases hj
      cases hs with
      | slice _ _ _ _ cap' hlt hll hc =>
        by_cases hgr : cap' < len + n
        · exact grown _ cap' hgr cellsAt
        · -- the world has room
          have hc2 : cap ≤ cap' ∧ (ι b).base + o + cap' * (ι b).stride ≤ (ι b).size ∧ cap' ≤ maxLen := by
            rcases hc with hc | hc
            · exfalso; omega
            · exact hc
          rw [hst.eq] at hc2
          have e1 : (len + n) * i.size ≤ cap' * i.size := Nat.mul_le_mul_right _ (by omega)
          rw [Nat.add_mul] at e1
          obtain ⟨hR, hSt⟩ := h.goesOn hb o (len * i.size) hfit news us (by omega) hone hr (len + n) (by rw [hnn, Nat.add_mul])
          have hrun := run_append_room_src (P := P) w t tx ty e i ht hi (ι b).blk ((ι b).base + o) len cap' x' n us hS (by omega)
            (fun j hj => by rw [cell_of_block hC]; simp; omega) (fun j hj => frozen_of_block hC (hfz rfl _ (by omega)))
          have hns := newSlice (m := m.set b none) (ι := ι) (.cells false i.size ((cs.drop o).take (len * i.size) ++ news)) ⟨(ι b).blk, (ι b).base + o, (ι b).size, i.size⟩ (len + n) (len + n) cap' (Nat.le_refl _) (.inr ⟨by omega, hc2.2⟩)
          have e0 : (m.set b none).size = m.size := by simp
          rw [e0] at hns
          exact ⟨_, _, _, hrun, hns, hR, hSt⟩
      | empty _ _ o' hlt =>
        refine grown _ 0 (by omega) ?_
        intro j u hj
        simp at hj
def aExtend (P : Program) (m : Mem) (t tx : TypeId) (s x : Value) : Option (Value × Mem) :=
  match P.underlying t with
  | some (.slice e) => match P.underlying tx with
    | some (.int _) => match P.info? e with
      | some i => match i.zero with
        | some z => match s, x with
          | .slice none 0 0, .int .i64 (.ofNat n) => if 0 < n ∧ n * i.bytes ≤ 140737488355328 ∧ n ≤ 140737488355328 ∧ z.cells.toList.length = i.size ∧ 0 < z.cells.toList.length ∧ flat 3 z = true ∧ oneAll z.cells.toList = true then
              some (.slice (some ⟨m.size, 0, none⟩) n n, m.push (.cells false i.size (aZeros z.cells.toList (n * i.size)))) else none
          | _, _ => none
        | none => none
      | none => none
    | _ => none
  | _ => none
theorem aExtend_run (h : Rel ι m w) {t tx ty : TypeId} {s x u : Value} {m' : Mem} (hl : aExtend P m t tx s x = some (u, m')) {s' x' : Value} (hs : VRel m.Has ι s s') (hx : VRel m.Has ι x x') :
    Sim ι m w ((Builtin.append_ #[t, tx] ty #[s', x']).run P w) u m' := by
  unfold aExtend at hl
  split at hl <;> first | (cases hl; done) | skip
  rename_i e ht
  split at hl <;> first | (cases hl; done) | skip
  rename_i kx htx
  split at hl <;> first | (cases hl; done) | skip
  rename_i i hi
  split at hl <;> first | (cases hl; done) | skip
  rename_i z hz
  split at hl <;> first | (cases hl; done) | skip
  rename_i n
  split at hl <;> first | (cases hl; done) | skip
  rename_i hc
  obtain ⟨hn0, hb, hn, hzl, hzp, hf, hz1⟩ := hc
  cases hl
  cases hs; cases hx
  have hzs : z.cells.size = i.size := by simpa using hzl
  have hsp : 0 < i.size := by rw [← hzl]; exact hzp
  have e0 : ∀ k, Builtin.zeroCells z.cells k = madeCells z.cells (k * i.size) := fun k => by unfold Builtin.zeroCells madeCells; rw [hzs]
  have hw : IntKind.i64.wrap (Int.ofNat n) = Int.ofNat n := by
    have h1 : (Int.ofNat n) % (2 ^ 64 : Int) = Int.ofNat n := by
      have : (2 : Int) ^ 64 = 18446744073709551616 := by decide
      rw [this]; simp only [Int.ofNat_eq_natCast]; omega
    have e : IntKind.i64.bits = 64 := rfl
    have e2 : IntKind.i64.signed = true := rfl
    unfold IntKind.wrap
    simp only [e, e2, Bool.true_and, decide_eq_true_eq]
    rw [h1, if_neg]
    have : (2 : Int) ^ (64 - 1) = 9223372036854775808 := by decide
    rw [this]; simp only [Int.ofNat_eq_natCast]; omega
  have hg : (Builtin.append_ #[t, tx] ty #[.slice none 0 0, .int .i64 (Int.ofNat n)]).run P w =
      .ok (.slice (some ⟨w.heap.size, 0, none⟩) n (grownCap w n 0 e)) (w.drew.alloc (.cells (Builtin.zeroCells z.cells n ++ Builtin.zeroCells z.cells (grownCap w n 0 e - n)) e)) := by
    have hw : IntKind.i64.wrap (n : Int) = (n : Int) := hw
    have h1 : ¬ ((n : Int) < 0) := by omega
    have h2 : ¬ (281474976710656 < (n : Int) * (i.bytes : Int)) := by
      have : ((n : Int) * (i.bytes : Int)) = ((n * i.bytes : Nat) : Int) := by simp
      rw [this]; omega
    have h3 : ¬ (n ≤ 0) := by omega
    have h4 : ¬ (9223372036854775807 < (n : Int)) := by omega
    have h5 : Builtin.nextslicecap n 0 = n := by unfold Builtin.nextslicecap; rw [if_pos (by omega)]
    have h6 : ¬ (281474976710656 < n * i.bytes) := by omega
    have h7 : ¬ (n * i.size = 0) := Nat.ne_of_gt (Nat.mul_pos hn0 hsp)
    have h8 : ¬ (n = 0 ∨ i.size = 0) := by omega
    simp [Builtin.append_, run_underlying ht, run_underlying htx, sizeOf, typeInfo, zeroValue, hi, hz, asInt, asIntOf, hw, h1, h2, h3, h4, h5, h6, h7, h8, Question.forced, newRow, grownCap, Builtin.firstCells]
    omega
  generalize hcap : grownCap w n 0 e = cap at hg
  have hge : n ≤ cap := by rw [← hcap]; exact grownCap_ge w n 0 e
  generalize hC : (Builtin.zeroCells z.cells n ++ Builtin.zeroCells z.cells (cap - n)) = C at hg
  have hl1 : (madeCells z.cells (n * i.size)).toList.length = n * i.size := by simp [madeCells]
  have htk : C.toList.take (n * i.size) = (madeCells z.cells (n * i.size)).toList := by
    subst hC
    rw [Array.toList_append, e0, List.take_append_of_le_length (by rw [hl1]; exact Nat.le_refl _), List.take_of_length_le (by rw [hl1]; exact Nat.le_refl _)]
  have hCs : C.size = n * i.size + (cap - n) * i.size := by subst hC; rw [Array.size_append, e0, e0]; simp [madeCells]
  have hzr : VRels m.Has ι (aZeros z.cells.toList (n * i.size)) (madeCells z.cells (n * i.size)).toList := by
    rw [← aZeros_eq (by omega)]
    exact aZeros_rel _ (flat_rel (n := m.Has) (ι := ι) 3 z hf).cells
  have hzn := aZeros_length z.cells.toList (n * i.size)
  obtain ⟨hR, hSt⟩ := h.newCells (cs := aZeros z.cells.toList (n * i.size)) (rest := []) (OneMore.drewAlloc w (.cells C e)) i.size (by rw [hzn, htk]; exact hzr) (by rw [hzn]; omega) (aZeros_one hzp hz1) (.inl rfl) (.row n hzn)
  refine ⟨_, _, _, hg, newSlice _ ⟨w.heap.size, 0, C.size, i.size⟩ _ _ _ (Nat.le_refl _) (.inr ⟨hge, ?_, by rw [← hcap]; exact grownCap_le_maxLen w n 0 e (by simp only [maxLen]; omega)⟩), hR, hSt⟩
  have e1 : cap * i.size = n * i.size + (cap - n) * i.size := by rw [← Nat.add_mul]; congr 1; omega
  simp only
  omega
def aCopy (P : Program) (m : Mem) (t tx : TypeId) (d x : Value) : Option (Value × Mem) :=
  match P.underlying t with
  | some (.slice e) => match P.underlying tx with
    | some (.slice _) => match P.info? e with
      | some i => match d, x with
        | .slice (some ⟨b, o, none⟩) dl _, .slice (some ⟨b2, o2, none⟩) n _ => match m.get b2 with
          | some (.cells _ _ cs2) => match m.get b with
            | some (.cells false st cs) => if o2 + min n dl * i.size ≤ cs2.length ∧ o + min n dl * i.size ≤ cs.length then
                some (.int .i64 (min n dl : Nat), m.set b (some (.cells false st (setL cs o ((cs2.drop o2).take (min n dl * i.size))))))
              else none
            | _ => none
          | _ => none
        | _, _ => none
      | none => none
    | _ => none
  | _ => none
theorem aCopy_run (h : Rel ι m w) {t tx ty : TypeId} {d x u : Value} {m' : Mem} (hl : aCopy P m t tx d x = some (u, m')) {d' x' : Value} (hd : VRel m.Has ι d d') (hx : VRel m.Has ι x x') :
    Sim ι m w ((Builtin.copy_ #[t, tx] ty #[d', x']).run P w) u m' := by
  unfold aCopy at hl
  split at hl <;> first | (cases hl; done) | skip
  rename_i e ht
  split at hl <;> first | (cases hl; done) | skip
  rename_i e2 htx
  split at hl <;> first | (cases hl; done) | skip
  rename_i i hi
  split at hl <;> first | (cases hl; done) | skip
  rename_i b o dl dc b2 o2 n nc
  split at hl <;> first | (cases hl; done) | skip
  rename_i ro2 st2 cs2 hb2
  split at hl <;> first | (cases hl; done) | skip
  rename_i st cs hb
  split at hl <;> first | (cases hl; done) | skip
  rename_i hc
  obtain ⟨hc1, hc2⟩ := hc
  cases hl
  generalize hk : min n dl = k at *
  obtain ⟨us, hr, hul, hcell, hone, hone'⟩ := h.stretch hb2 o2 (k * i.size) hc1
  have hnl : ((cs2.drop o2).take (k * i.size)).length = k * i.size := by rw [hr.1, hul]
  obtain ⟨hR, hS⟩ := h.write hb o _ us (by rw [hnl]; exact hc2) (oneAll_spec hone') hr
  obtain ⟨C, et, fz, hC, hsz, hst, hlen, hvv, hfz⟩ := h.at' b false st cs hb
  have hld := run_loadCells_list (P := P) w ⟨(ι b2).blk, (ι b2).base + o2, none⟩ us (fun j v hj => by rw [Addr_add]; exact hcell j v hj)
  rw [hul] at hld
  have hstr := run_storeCells_cells (P := P) (ι b).blk ((ι b).base + o) us 0 w (fun j hj => by
      rw [cell_of_block hC]; simp; omega) (fun j hj => frozen_of_block hC (hfz rfl _ (by omega))) hone
  simp only [Nat.add_zero] at hstr
  have hlen' : ∀ a c, (Builtin.lenOf (.slice a n c)).run P w = .ok n w := fun _ _ => rfl
  have run : ∀ dc' nc', (Builtin.copy_ #[t, tx] ty #[.slice (some ⟨(ι b).blk, (ι b).base + o, none⟩) dl dc', .slice (some ⟨(ι b2).blk, (ι b2).base + o2, none⟩) n nc']).run P w = .ok (.int .i64 (k : Nat)) (w.setCells (ι b).blk ((ι b).base + o) us) := fun dc' nc' => by
    have hmin : Nat.min n dl = k := hk
    simp [Builtin.copy_, run_underlying ht, Builtin.lenOf, Builtin.firstCells, run_sizeOf' hi, hmin, hld, hstr, goInt]
  have zero : dl = 0 ∨ n = 0 → us = [] ∧ k = 0 := fun h0 => by
    have : k = 0 := by rcases h0 with h0 | h0 <;> omega
    subst this
    exact ⟨List.eq_nil_of_length_eq_zero (by simpa using hul), rfl⟩
  cases hd with
  | slice _ _ _ _ cap' hlt hl hcc => cases hx with
    | slice _ _ _ _ cap2 hlt2 hl2 hcc2 => exact ⟨_, _, ι, run _ _, .int _ _, hR, hS⟩
    | empty _ _ p hlt2 =>
      obtain ⟨h1, h2⟩ := zero (.inr rfl)
      subst h1; subst h2
      refine ⟨_, _, ι, ?_, .int _ _, hR, hS⟩
      simp [Builtin.copy_, run_underlying ht, Builtin.lenOf, Builtin.firstCells, run_sizeOf' hi, goInt, loadCells, loadCellsFrom, storeCells, World.setCells]
  | empty _ _ p hlt => 
    obtain ⟨h1, h2⟩ := zero (.inl rfl)
    subst h1; subst h2
    refine ⟨_, _, ι, ?_, .int _ _, hR, hS⟩
    cases hx with
    | slice _ _ _ _ cap2 hlt2 hl2 hcc2 => simp [Builtin.copy_, run_underlying ht, Builtin.lenOf, Builtin.firstCells, run_sizeOf' hi, goInt, loadCells, loadCellsFrom, storeCells, World.setCells]
    | empty _ _ p2 hlt2 => simp [Builtin.copy_, run_underlying ht, Builtin.lenOf, Builtin.firstCells, run_sizeOf' hi, goInt, loadCells, loadCellsFrom, storeCells, World.setCells]
end sim
end Go.Proofs.YtfdijpacbhomjaaGreatDoor.Abs
namespace Go.Proofs.YtfdijpacbhomjaaGreatDoor.Abs
open Go
section
variable {ι : Nat → Loc} {m : Mem} {w : World}
theorem Rel.newOther (h : Rel ι m w) {w' : World} {o : Obj} (k : OneMore w w' o) (x : Blk) (hx : ∀ ro s cs, x ≠ .cells ro s cs) (ht : x.Told ι m.Has (some o) 0) :
    Rel (newLoc ι m.size ⟨w.heap.size, 0, 0, 1⟩) (m.push x) w' ∧ Step ι m w (newLoc ι m.size ⟨w.heap.size, 0, 0, 1⟩) (m.push x) w' := by
  have h' := h.more k
  have hat : ∀ b, m.Has b → newLoc ι m.size ⟨w.heap.size, 0, 0, 1⟩ b = ι b := fun b hb => newLoc_old _ (Mem.has_lt hb)
  refine ⟨⟨fun b ro s cs hb => ?_, fun b y hb => ?_, fun b b' hb hb' hne => ?_, ⟨h'.glob.known, fun b ⟨y, hb, hy⟩ => ?_⟩⟩, ⟨k.os, k.tape, k.output, by rw [k.heap]; simp, fun _ hb => Mem.has_push _ hb, hat, fun g hg _ => by rw [k.heap, Array.getElem?_push, if_neg (by omega)], fun b ⟨y, hb, hy⟩ => ?_⟩⟩
  · rcases Mem.get_push hb with ⟨hlt, hg⟩ | ⟨_, e⟩
    · rw [newLoc_old _ hlt]
      obtain ⟨C, e, fz, h1, h2, h3, h4, h5, h6⟩ := h'.at' b ro s cs hg
      exact ⟨C, e, fz, h1, h2, h3, h4, fun i v hi => by
        obtain ⟨h7, v', h8, h9⟩ := h5 i v hi
        exact ⟨h7, v', h8, h9.mono (fun _ hb => Mem.has_push _ hb) hat⟩, h6⟩
    · exact absurd e (hx ro s cs)
  · rcases Mem.get_push hb with ⟨hlt, hg⟩ | ⟨rfl, e⟩
    · rw [newLoc_old _ hlt]
      exact (h'.oth b y hg).mono (fun _ hb => Mem.has_push _ hb) hat
    · subst e
      rw [newLoc_new, k.heap]
      have e1 : (w.heap.push o)[w.heap.size]? = some o := by simp
      rw [e1]
      exact ht.mono (fun _ hb => Mem.has_push _ hb) hat
  · obtain ⟨y, hy1, hy2⟩ := hb'
    obtain ⟨z, hz⟩ := Option.ne_none_iff_exists'.1 hb
    rcases Mem.get_push hz with ⟨h1, h2⟩ | ⟨rfl, _⟩ <;> rcases Mem.get_push hy1 with ⟨h3, h4⟩ | ⟨rfl, _⟩
    · rw [newLoc_old _ h1, newLoc_old _ h3]
      exact h.inj b b' (by rw [h2]; simp) ⟨y, h4, hy2⟩ hne
    · rw [newLoc_old _ h1, newLoc_new]
      have := h.lt (b := b) (by rw [h2]; simp)
      simp only; omega
    · rw [newLoc_old _ h3, newLoc_new]
      have := h.lt (b := b') (by rw [h4]; simp)
      simp only; omega
    · exact absurd rfl hne
  · rcases Mem.get_push hb with ⟨h1, h2⟩ | ⟨rfl, _⟩
    · rw [newLoc_old _ h1]; exact h.glob.own b ⟨y, h2, hy⟩
    · rw [newLoc_new]; exact h.glob.known.size
  · rcases Mem.get_push hb with ⟨h1, h2⟩ | ⟨rfl, _⟩
    · exact .inr ⟨b, ⟨y, h2, hy⟩, by rw [newLoc_old _ h1]⟩
    · rw [newLoc_new]; exact .inl (Nat.le_refl _)
theorem Rel.turnOther (h : Rel ι m w) {w' : World} {b : Nat} {x₀ x : Blk} (hb : m.get b = some x₀) (h0 : x₀.own = true) (hbase : (ι b).base = 0) (hx : ∀ ro s cs, x ≠ .cells ro s cs) {o : Obj} (ht : x.Told ι m.Has (some o) 0)
    (k1 : w'.heap[(ι b).blk]? = some o) (k2 : ∀ g, g ≠ (ι b).blk → w'.heap[g]? = w.heap[g]?) (k3 : w'.heap.size = w.heap.size) (k4 : w'.os = w.os) (k5 : w'.tape = w.tape) (k6 : w'.output = w.output) :
    Rel ι (m.set b (some x)) w' ∧ Step ι m w ι (m.set b (some x)) w' := by
  have hown : m.Own b := ⟨_, hb, h0⟩
  have hsame := Mem.get_set_same hb (some x)
  have hne : ∀ c, c ≠ b → (m.set b (some x)).get c = m.get c := fun c hc => Mem.get_set_ne (Ne.symm hc) _
  have far : ∀ c, c ≠ b → m.get c ≠ none → w'.heap[(ι c).blk]? = w.heap[(ι c).blk]? := fun c hc hl => k2 _ (h.inj c b hl hown hc)
  have oown : ∀ c, (m.set b (some x)).Own c → m.Own c := fun c ⟨y, hc, hy⟩ => by
    by_cases e : c = b
    · subst e; exact hown
    · rw [hne c e] at hc; exact ⟨y, hc, hy⟩
  refine ⟨⟨fun c ro s cs hc => ?_, fun c y hc => ?_, fun c c' hc hc' hne' => ?_, ⟨?_, fun c hc => h.glob.own c (oown c hc)⟩⟩, ⟨k4, k5, k6, by rw [k3]; exact Nat.le_refl _, fun _ hc => Mem.has_set _ hc, fun _ _ => rfl, fun g _ hg => k2 g fun e => hg b hown e.symm, fun c hc => .inr ⟨c, oown c hc, rfl⟩⟩⟩
  · by_cases e : c = b
    · subst e; rw [hsame] at hc; cases hc; exact absurd rfl (hx ro s cs)
    · rw [hne c e] at hc
      rw [far c e (by rw [hc]; simp)]
      obtain ⟨C, e, fz, h1, h2, h3, h4, h5, h6⟩ := h.at' c ro s cs hc
      exact ⟨C, e, fz, h1, h2, h3, h4, fun i v hi => by
        obtain ⟨h7, v', h8, h9⟩ := h5 i v hi
        exact ⟨h7, v', h8, h9.mono (fun _ hb => Mem.has_set _ hb) fun _ _ => rfl⟩, h6⟩
  · by_cases e : c = b
    · subst e; rw [hsame] at hc; cases hc
      rw [k1, hbase]
      exact ht.mono (fun _ hb => Mem.has_set _ hb) fun _ _ => rfl
    · rw [hne c e] at hc
      rw [far c e (by rw [hc]; simp)]
      exact (h.oth c y hc).mono (fun _ hb => Mem.has_set _ hb) fun _ _ => rfl
  · refine h.inj c c' ?_ (oown c' hc') hne'
    by_cases e : c = b
    · subst e; rw [hb]; simp
    · rw [← hne c e]; exact hc
  · have := h.glob.own b hown
    exact h.glob.known.keep fun g hg => k2 g (by omega)
end
end Go.Proofs.YtfdijpacbhomjaaGreatDoor.Abs
namespace Go.Proofs.YtfdijpacbhomjaaGreatDoor.Abs
open Go Go.MapKept
def aKey (d : TypeDesc) (k : Value) : Bool := match d, k with
  | .int k, .int k' _ => decide (k' = k)
  | .string, .string _ => true
  | _, _ => false
def aKV (get : Nat → Option Blk) (x : Value) : Option (List MapEntry) := match x with
  | .map none => some []
  | .map (some b) => match get b with | some (.kv _ es _) => some es | _ => none
  | _ => none
def intOf (kd : IntKind) (v : Value) : Bool := match v with | .int k _ => decide (k = kd) | _ => false
def arrKey (P : Program) (n : Nat) (e : TypeId) (k : Value) : Bool := match k with
  | .agg cs => match P.underlying e with
    | some (.int kd) => match P.info? e with
      | some i => decide (i.size = 1) && decide (cs.toList.length = n) && cs.toList.all (intOf kd)
      | none => false
    | _ => false
  | _ => false
def eqKs : List Value → List Value → Bool
  | [], [] => true
  | .int j a :: r, .int k b :: s => if j = k ∧ a = b then eqKs r s else false
  | _, _ => false
def eqK (x y : Value) : Bool := match x, y with | .agg a, .agg b => eqKs a.toList b.toList | _, _ => false
def aFindA (P : Program) (kt : TypeId) (k : Value) : List MapEntry → Nat → Option (Option (Nat × Value))
  | [], _ => some none
  | e :: es, i => match aEq P 2 kt k e.key with
    | some true => if eqK k e.key = true then some (some (i, e.val)) else none
    | some false => aFindA P kt k es (i + 1)
    | none => none
def aFind (P : Program) (kt : TypeId) (k : Value) (es : List MapEntry) : Option (Option (Nat × Value)) := match P.underlying kt with
  | some d => if aKey d k = true then Instr.findNow d k es 0 else match d with
    | .array n e => if arrKey P n e k = true then aFindA P kt k es 0 else none
    | _ => none
  | none => none
def aLookup (P : Program) (get : Nat → Option Blk) (t : TypeId) (x k : Value) (ok : Bool) : Option Value :=
  match P.underlying t with
  | some (.map kt et) => match P.info? et with
    | some i => match i.zero with
      | some z => if flat 3 z = true then match aKV get x with
        | some es => match aFind P kt k es with
          | some (some (_, v)) => some (if ok = true then .tuple #[v, .bool true] else v)
          | some none => some (if ok = true then .tuple #[z, .bool false] else z)
          | none => none
        | none => none
        else none
      | none => none
    | none => none
  | _ => none
def aMapUpdate (P : Program) (m : Mem) (t : TypeId) (x k v : Value) : Option Mem :=
  match P.underlying t with
  | some (.map kt _) => match x with
    | .map (some b) => match m.get b with
      | some (.kv false es c) => if flat 3 v = true then match aFind P kt k es with
          | some (some (i, _)) => some (m.set b (some (.kv false (es.modify i fun e => { e with val := v }) c)))
          | some none => some (m.set b (some (.kv false (es ++ [⟨k, v, c⟩]) (c + 1))))
          | none => none
        else none
      | _ => none
    | _ => none
  | _ => none
def aClear (P : Program) (m : Mem) (t : TypeId) (x : Value) : Option Mem :=
  match P.underlying t with
  | some (.map _ _) => match x with
    | .map none => some m
    | .map (some b) => match m.get b with
      | some (.kv false _ c) => some (m.set b (some (.kv false [] c)))
      | _ => none
    | _ => none
  | _ => none
def aRange (P : Program) (m : Mem) (t : TypeId) (x : Value) : Option (Value × Mem) :=
  match P.underlying t with
  | some (.map _ _) => match x with
    | .map (some b) => match m.get b with
      | some (.kv _ _ c) => some (.pointer (some ⟨m.size, 0, none⟩), m.push (.it false b c [] c))
      | _ => none
    | _ => none
  | _ => none
def aLeft (es : List MapEntry) (seen : List Nat) : List MapEntry := es.filter fun e => !seen.contains e.born
def aNext (m : Mem) (x : Value) : Option (Value → Mem → Prop) := match x with
  | .pointer (some ⟨r, 0, none⟩) => match m.get r with
    | some (.it false b since seen last) => match m.get b with
      | some (.kv _ es c) => if (es.all fun e => decide (e.born < since)) = true ∧ since ≤ last then
          some fun v m' => (v = .tuple #[.bool false] ∧ m' = m ∧ aLeft es seen = []) ∨ ∃ e ∈ aLeft es seen, v = .tuple #[.bool true, e.key, e.val] ∧ m' = m.set r (some (.it false b since (seen ++ [e.born]) c))
        else none
      | _ => none
    | _ => none
  | _ => none
def aEntry (get : Nat → Option Blk) (x : Value) : Option Value := match x with
  | .pointer (some ⟨r, 0, none⟩) => match get r with
    | some (.it _ b _ seen last) => match get b with
      | some (.kv _ es c) => if c = last then match seen.getLast? with
          | some st => match es.find? fun e => e.born == st with
            | some e => some (.tuple #[e.key, e.val])
            | none => none
          | none => none
        else none
      | _ => none
    | _ => none
  | _ => none
theorem aEntry_mono {get get' : Nat → Option Blk} (hm : ∀ b x, get b = some x → get' b = some x) {x v : Value} (h : aEntry get x = some v) : aEntry get' x = some v := by
  unfold aEntry at h ⊢
  split at h <;> first | (cases h; done) | skip
  split at h <;> first | (cases h; done) | skip
  rename_i hr
  split at h <;> first | (cases h; done) | skip
  rename_i hb
  simp only [hm _ _ hr, hm _ _ hb]
  exact h
theorem aKV_mono {get get' : Nat → Option Blk} (hm : ∀ b x, get b = some x → get' b = some x) {x : Value} {es : List MapEntry} (h : aKV get x = some es) : aKV get' x = some es := by
  unfold aKV at h ⊢
  split at h <;> first | (cases h; done) | skip
  · exact h
  · split at h <;> first | (cases h; done) | skip
    rename_i hb
    simp only [hm _ _ hb]; exact h
theorem aLookup_mono {P : Program} {get get' : Nat → Option Blk} (hm : ∀ b x, get b = some x → get' b = some x) {t : TypeId} {x k v : Value} {ok : Bool} (h : aLookup P get t x k ok = some v) : aLookup P get' t x k ok = some v := by
  unfold aLookup at h ⊢
  split at h <;> first | (cases h; done) | skip
  split at h <;> first | (cases h; done) | skip
  split at h <;> first | (cases h; done) | skip
  split at h <;> first | (cases h; done) | skip
  rename_i hf
  split at h <;> first | (cases h; done) | skip
  rename_i es hes
  simp only [if_pos hf, aKV_mono hm hes]
  exact h
theorem sameNow_true {d : TypeDesc} {k u : Value} (h : Instr.sameNow d k u = some true) : u = k := by
  unfold Instr.sameNow at h
  split at h
  · split at h
    · rename_i e; subst e; simp at h; subst h; rfl
    · cases h
  · simp only [Option.some.injEq, bytes_beq] at h; rw [h]
  · simp at h; subst h; rfl
  · cases h
theorem sameBits_key {d : TypeDesc} {k : Value} (h : aKey d k = true) : Instr.sameBits 10000 k k = true := by
  unfold aKey at h
  split at h
  · simp [Instr.sameBits]
  · simp [Instr.sameBits, bytes_beq]
  · cases h
theorem findNow_found {d : TypeDesc} {k : Value} : ∀ (es : List MapEntry) (i : Nat) {j : Nat} {v : Value}, Instr.findNow d k es i = some (some (j, v)) → ∃ e, i ≤ j ∧ es[j - i]? = some e ∧ e.val = v ∧ e.key = k
  | [], _, _, _, h => by simp [Instr.findNow] at h
  | e :: es, i, j, v, h => by
    unfold Instr.findNow at h
    split at h
    · rename_i hs
      simp only [Option.some.injEq, Prod.mk.injEq] at h
      obtain ⟨rfl, rfl⟩ := h
      exact ⟨e, Nat.le_refl _, by simp, rfl, sameNow_true hs⟩
    · obtain ⟨e', h1, h2, h3, h4⟩ := findNow_found es (i + 1) h
      refine ⟨e', by omega, ?_, h3, h4⟩
      have : j - i = (j - (i + 1)) + 1 := by omega
      rw [this, List.getElem?_cons_succ]; exact h2
    · cases h
theorem aKey_key {d : TypeDesc} {k : Value} (h : aKey d k = true) : IsKey d k := by
  unfold aKey at h
  split at h
  · simpa [IsKey] using h
  · trivial
  · cases h
theorem aKey_flat {d : TypeDesc} {k : Value} (h : aKey d k = true) : flat 3 k = true := by
  unfold aKey at h
  split at h
  · rfl
  · rfl
  · cases h
section
variable {P : Program} {ι : Nat → Loc} {m : Mem} {w : World}
theorem eqKs_spec : ∀ {a b : List Value}, eqKs a b = true → a = b ∧ ((b.zip a).all fun (x, y) => Instr.sameBits 9999 x y) = true ∧ ∀ D, (a.all (flat D)) = true
  | [], [], _ => ⟨rfl, rfl, fun _ => rfl⟩
  | x :: r, y :: s, h => by
    unfold eqKs at h
    split at h <;> first | (cases h; done) | skip
    · rename_i e _; cases e
    · rename_i j a r k b s e1 e2
      cases e1; cases e2
      split at h <;> first | (cases h; done) | skip
      rename_i hc
      obtain ⟨rfl, rfl⟩ := hc
      obtain ⟨rfl, h2, h3⟩ := eqKs_spec h
      refine ⟨rfl, ?_, fun D => ?_⟩
      · simp only [List.zip_cons_cons, List.all_cons, h2, Bool.and_true]
        simp [Instr.sameBits]
      · simp only [List.all_cons, h3, Bool.and_true]
        cases D <;> rfl
  | [], _ :: _, h => by cases h
  | _ :: _, [], h => by unfold eqKs at h; split at h <;> first | (cases h; done) | (rename_i e _; cases e; done) | (rename_i e; cases e)
theorem eqK_spec {x y : Value} (h : eqK x y = true) : y = x ∧ Instr.sameBits 10000 y x = true := by
  unfold eqK at h
  split at h <;> first | (cases h; done) | skip
  rename_i a b
  obtain ⟨e, h2, _⟩ := eqKs_spec h
  have : a = b := Array.toList_inj.1 e
  subst this
  refine ⟨rfl, ?_⟩
  show Instr.sameBits (9999 + 1) (.agg a) (.agg a) = true
  simp only [Instr.sameBits, beq_self_eq_true, Bool.true_and]
  exact h2
theorem intsFlat {kd : IntKind} {cs : List Value} (h : cs.all (intOf kd) = true) (D : Nat) : cs.all (flat D) = true := by
  rw [List.all_eq_true] at h ⊢
  intro v hv
  have := h v hv
  unfold intOf at this
  split at this
  · cases D <;> rfl
  · cases this
theorem findA_run {P : Program} {kt : TypeId} {k : Value} (hk : flat 3 k = true) : ∀ (es : List MapEntry) (i : Nat) {r : Option (Nat × Value)}, aFindA P kt k es i = some r → (∀ e ∈ es, flat 3 e.key = true) →
    (∀ w, (Instr.findAsking kt k es i).run P w = .ok r w) ∧ ∀ j v, r = some (j, v) → ∃ e, i ≤ j ∧ es[j - i]? = some e ∧ e.val = v ∧ e.key = k ∧ Instr.sameBits 10000 e.key k = true
  | [], i, r, h, _ => by
    cases h
    exact ⟨fun w => rfl, fun j v e => by cases e⟩
  | e :: es, i, r, h, hes => by
    unfold aFindA at h
    have hr : ∀ {b : Bool}, aEq P 2 kt k e.key = some b → ∀ w, (Op.equal kt k e.key).run P w = .ok b w := fun hb w =>
      aEq_run (n := fun _ => False) (ι := fun _ => ⟨0, 0, 0, 0⟩) 2 kt k e.key _ hb _ _ (flat_rel 3 _ hk) (flat_rel 3 _ (hes e List.mem_cons_self)) 9998 w
    split at h <;> first | (cases h; done) | skip
    · rename_i hb
      split at h <;> first | (cases h; done) | skip
      rename_i hq
      cases h
      obtain ⟨q1, q2⟩ := eqK_spec hq
      refine ⟨fun w => by simp [Instr.findAsking, hr hb w], fun j v hj => ?_⟩
      cases hj
      exact ⟨e, Nat.le_refl _, by simp, rfl, q1, q2⟩
    · rename_i hb
      obtain ⟨h1, h2⟩ := findA_run hk es (i + 1) h fun e he => hes e (List.mem_cons_of_mem _ he)
      refine ⟨fun w => by simp [Instr.findAsking, hr hb w, h1 w], fun j v hj => ?_⟩
      obtain ⟨e', k1, k2, k3⟩ := h2 j v hj
      refine ⟨e', by omega, ?_, k3⟩
      rw [show j - i = (j - (i + 1)) + 1 by omega, List.getElem?_cons_succ]; exact k2
theorem checkArr_run {P : Program} {kt e : TypeId} {n : Nat} {k : Value} (hd : P.underlying kt = some (.array n e)) (h : arrKey P n e k = true) (em : Bool) (w : World) : (Instr.checkKey em 10000 kt k).run P w = .ok () w := by
  unfold arrKey at h
  split at h <;> first | (cases h; done) | skip
  rename_i cs
  split at h <;> first | (cases h; done) | skip
  rename_i kd hu
  split at h <;> first | (cases h; done) | skip
  rename_i i hi
  simp only [Bool.and_eq_true, decide_eq_true_eq] at h
  obtain ⟨⟨hs, hl⟩, hall⟩ := h
  show (Instr.checkKey em (9999 + 1) kt (.agg cs)).run P w = .ok () w
  rw [Instr.checkKey]
  simp only [Sem.run_bind, run_underlying hd, Result.andThen_ok]
  simp only [Std.Legacy.Range.forIn_eq_forIn_range', Std.Legacy.Range.size, Nat.sub_zero, Nat.add_one_sub_one, Nat.div_one]
  have each : ∀ j ∈ List.range' 0 n, ∃ x, aPart P e cs.toList (j * i.size) = some (.int kd x) := fun j hj => by
    have hj : j < n := by simpa using hj
    have hm : cs.toList[j]'(by omega) ∈ cs.toList := List.getElem_mem _
    have ho := List.all_eq_true.1 hall _ hm
    unfold intOf at ho
    split at ho <;> first | (cases ho; done) | skip
    rename_i k x he
    rw [decide_eq_true_eq] at ho
    subst ho
    refine ⟨x, ?_⟩
    unfold aPart
    rw [hu, hs, Nat.mul_one]
    show cs.toList[j]? = _
    rw [List.getElem?_eq_getElem (by omega), he]
  generalize List.range' 0 n = is at each
  induction is with
  | nil => simp
  | cons j is ih =>
    obtain ⟨x, hx⟩ := each j (by simp)
    have p2 : (Instr.checkKey em 9999 e (.int kd x)).run P w = .ok () w := run_checkKey hu (by simp [IsKey]) em 9998
    simp only [List.forIn_cons, Sem.run_bind, run_sizeOf' hi, Result.andThen_ok, part_run hx, p2, Sem.run_pure]
    exact ih fun y hy => each y (by simp [hy])
theorem aFind_run {kt : TypeId} {k : Value} {es : List MapEntry} {r : Option (Nat × Value)} (h : aFind P kt k es = some r) (hes : ∀ e ∈ es, flat 3 e.key = true) :
    flat 3 k = true ∧ (∀ em w, (Instr.checkKey em 10000 kt k).run P w = .ok () w) ∧ (∀ w, (Instr.findKey kt k es).run P w = .ok r w) ∧ (∀ i v, r = some (i, v) → ∃ e, es[i]? = some e ∧ e.val = v ∧ e.key = k ∧ Instr.sameBits 10000 e.key k = true) := by
  unfold aFind at h
  split at h <;> first | (cases h; done) | skip
  rename_i d hd
  split at h
  · rename_i hk
    refine ⟨aKey_flat hk, fun em w => run_checkKey hd (aKey_key hk) em 9999, fun w => run_findKey hd h, fun i v hr => ?_⟩
    subst hr
    obtain ⟨e, _, h2, h3, h4⟩ := findNow_found es 0 h
    exact ⟨e, by simpa using h2, h3, h4, by rw [h4]; exact sameBits_key hk⟩
  · split at h <;> first | (cases h; done) | skip
    rename_i n e hnk
    split at h <;> first | (cases h; done) | skip
    rename_i hk
    have hf : flat 3 k = true := by
      have hk := hk
      unfold arrKey at hk
      split at hk <;> first | (cases hk; done) | skip
      split at hk <;> first | (cases hk; done) | skip
      split at hk <;> first | (cases hk; done) | skip
      simp only [Bool.and_eq_true] at hk
      show List.all _ (flat 2) = true
      exact intsFlat hk.2 2
    obtain ⟨h1, h2⟩ := findA_run hf es 0 h hes
    refine ⟨hf, fun em w => checkArr_run hd hk em w, fun w => ?_, fun i v hr => ?_⟩
    · cases es with
      | nil =>
        cases h
        simp [Instr.findKey, run_underlying hd, Instr.findNow]
      | cons x es =>
        have : Instr.findNow (.array n e) k (x :: es) 0 = none := by simp [Instr.findNow, Instr.sameNow]
        simp only [Instr.findKey, Sem.run_bind, run_underlying hd, Result.andThen_ok, this]
        exact h1 w
    · obtain ⟨e', _, k2, k3, k4, k5⟩ := h2 i v hr
      exact ⟨e', by simpa using k2, k3, k4, k5⟩
theorem aMakeMap_run (h : Rel ι m w) (t : TypeId) : Sim ι m w ((Instr.makeMap t none).run P w) (.map (some m.size)) (m.push (.kv false [] 0)) := by
  obtain ⟨h1, h2⟩ := h.newOther (OneMore.alloc w (.map #[] 0)) (.kv false [] 0) (fun _ _ _ e => by cases e) ⟨rfl, rfl, fun e he => by cases he⟩
  have hv : VRel (m.push (.kv false [] 0)).Has (newLoc ι m.size ⟨w.heap.size, 0, 0, 1⟩) (.map (some m.size)) (.map (some w.heap.size)) := by
    have := VRel.map (n := (m.push (.kv false [] 0)).Has) (ι := newLoc ι m.size ⟨w.heap.size, 0, 0, 1⟩) m.size (Mem.has_push_new _ _)
    rw [newLoc_new] at this
    exact this
  exact ⟨_, _, _, rfl, hv, h1, h2⟩
theorem aLookup_run (h : Rel ι m w) {t : TypeId} {x k v : Value} {ok : Bool} (hl : aLookup P m.get t x k ok = some v) {x' k' : Value} (hx : VRel m.Has ι x x') (hk : VRel m.Has ι k k') : ∃ v', (Instr.lookup t x' k' ok).run P w = .ok v' w ∧ VRel m.Has ι v v' := by
  unfold aLookup at hl
  split at hl <;> first | (cases hl; done) | skip
  rename_i kt et hu
  split at hl <;> first | (cases hl; done) | skip
  rename_i i hi
  split at hl <;> first | (cases hl; done) | skip
  rename_i z hz
  split at hl <;> first | (cases hl; done) | skip
  rename_i hf
  split at hl <;> first | (cases hl; done) | skip
  rename_i es hes
  have key : ((x' = .map none ∧ es = []) ∨ ∃ r c, x' = .map (some r) ∧ w.heap[r]? = some (.map es.toArray c)) ∧ ∀ e ∈ es, flat 3 e.key = true ∧ flat 3 e.val = true := by
    unfold aKV at hes
    split at hes <;> first | (cases hes; done) | skip
    · cases hes; cases hx; exact ⟨.inl ⟨rfl, rfl⟩, fun e he => by cases he⟩
    · split at hes <;> first | (cases hes; done) | skip
      rename_i hb
      cases hes; cases hx
      obtain ⟨h1, h2, h3⟩ := h.oth _ _ hb
      exact ⟨.inr ⟨_, _, rfl, h1⟩, h3⟩
  obtain ⟨hx', hfk⟩ := key
  have hfl := fun e he => (hfk e he).2
  have hky := fun e he => (hfk e he).1
  split at hl <;> first | (cases hl; done) | skip
  · rename_i j u hfd
    obtain ⟨k1, k2, k3, k4⟩ := aFind_run hfd hky
    have := flat_eq 3 k k' k1 hk
    subst this
    cases hl
    obtain ⟨e, e1, e2, e3, e4⟩ := k4 _ _ rfl
    have hfv := hfl e (List.mem_of_getElem? e1)
    rw [e2] at hfv
    refine ⟨if ok = true then .tuple #[u, .bool true] else u, ?_, ?_⟩
    · rcases hx' with ⟨rfl, rfl⟩ | ⟨r, c, rfl, hr⟩
      · cases ok <;> simp [Instr.lookup, run_underlying hu, k2, k3]
      · cases ok <;> simp [Instr.lookup, run_underlying hu, MapKept.run_getObj_map hr, k2, k3]
    · cases ok
      · simpa using flat_rel 3 u hfv
      · exact .tuples (.cons (flat_rel 3 u hfv) (.cons (.bool _) .nil))
  · rename_i hfd
    obtain ⟨k1, k2, k3, k4⟩ := aFind_run hfd hky
    have := flat_eq 3 k k' k1 hk
    subst this
    cases hl
    refine ⟨if ok = true then .tuple #[z, .bool false] else z, ?_, ?_⟩
    · rcases hx' with ⟨rfl, rfl⟩ | ⟨r, c, rfl, hr⟩
      · cases ok <;> simp [Instr.lookup, run_underlying hu, k2, k3, zeroValue, typeInfo, hi, hz]
      · cases ok <;> simp [Instr.lookup, run_underlying hu, MapKept.run_getObj_map hr, k2, k3, zeroValue, typeInfo, hi, hz]
    · cases ok
      · simpa using flat_rel 3 z hf
      · exact .tuples (.cons (flat_rel 3 z hf) (.cons (.bool _) .nil))
theorem setBlock_rest (w : World) (b : Nat) (o : Obj) : (ChangeMaps.setBlock w b o).heap.size = w.heap.size ∧ (ChangeMaps.setBlock w b o).os = w.os ∧ (ChangeMaps.setBlock w b o).tape = w.tape ∧ (ChangeMaps.setBlock w b o).output = w.output := ⟨by simp [ChangeMaps.setBlock], rfl, rfl, rfl⟩
theorem setBlock_at {w : World} {b : Nat} {o o' : Obj} (h : w.heap[b]? = some o') : (ChangeMaps.setBlock w b o).heap[b]? = some o ∧ ∀ g, g ≠ b → (ChangeMaps.setBlock w b o).heap[g]? = w.heap[g]? := heap_set h
theorem run_setObj_any {P : Program} {w : World} {r : Nat} {o o' : Obj} (hr : w.heap[r]? = some o) (hk : (∃ es c, o = .map es c)) : (setObj r o').run P w = .ok () (ChangeMaps.setBlock w r o') := by
  obtain ⟨es, c, rfl⟩ := hk
  exact run_setObj_map o' hr
theorem aMapUpdate_run (h : Rel ι m w) {t : TypeId} {x k v : Value} {m' : Mem} (hl : aMapUpdate P m t x k v = some m') {x' k' v' : Value} (hx : VRel m.Has ι x x') (hk : VRel m.Has ι k k') (hv : VRel m.Has ι v v') :
    ∃ w', (Instr.mapUpdate t x' k' v').run P w = .ok () w' ∧ Rel ι m' w' ∧ Step ι m w ι m' w' := by
  unfold aMapUpdate at hl
  split at hl <;> first | (cases hl; done) | skip
  rename_i kt et hu
  split at hl <;> first | (cases hl; done) | skip
  rename_i b
  split at hl <;> first | (cases hl; done) | skip
  rename_i es c hb
  split at hl <;> first | (cases hl; done) | skip
  rename_i hf
  cases hx
  obtain ⟨h1, h2, h3⟩ := h.oth _ _ hb
  have e1 : v = v' := flat_eq 3 v v' hf hv
  subst e1
  have turn : ∀ (es' : List MapEntry) (c' : Nat), (∀ e ∈ es', flat 3 e.key = true ∧ flat 3 e.val = true) → Rel ι (m.set b (some (.kv false es' c'))) (ChangeMaps.setBlock w (ι b).blk (.map es'.toArray c')) ∧ Step ι m w ι (m.set b (some (.kv false es' c'))) (ChangeMaps.setBlock w (ι b).blk (.map es'.toArray c')) := fun es' c' he => by
    obtain ⟨q1, q2, q3, q4⟩ := setBlock_rest w (ι b).blk (.map es'.toArray c')
    obtain ⟨q5, q6⟩ := setBlock_at (o := .map es'.toArray c') h1
    exact h.turnOther hb rfl h2 (fun _ _ _ e => by cases e) ⟨rfl, rfl, he⟩ q5 q6 q1 q2 q3 q4
  split at hl <;> first | (cases hl; done) | skip
  · rename_i i u hfd
    obtain ⟨k1, k2, k3, k4⟩ := aFind_run hfd fun e he => (h3 e he).1
    have := flat_eq 3 k k' k1 hk
    subst this
    cases hl
    obtain ⟨e, e1, e2, e3, e4⟩ := k4 _ _ rfl
    have hmod : (es.modify i fun e => { e with val := v }) = es.modify i fun e => { e with key := k, val := v } := by
      apply List.ext_getElem?
      intro j
      rw [List.getElem?_modify, List.getElem?_modify]
      by_cases hj : i = j
      · subst hj; rw [e1]; simp [← e3]
      · simp [hj]
    refine ⟨_, ?_, turn _ _ ?_⟩
    · simp only [Instr.mapUpdate, Sem.run_bind, run_underlying hu, Result.andThen_ok, MapKept.run_getObj_map h1, k2, k3, Instr.keyThatStays]
      simp only [List.getElem?_toArray, e1, Option.map_some, Option.getD_some, e4, if_true, Sem.run_pure, Result.andThen_ok]
      rw [run_setObj_any h1 ⟨_, _, rfl⟩, hmod]
      simp [List.modify_toArray]
    · intro e' he'
      obtain ⟨j, hj⟩ := List.getElem?_of_mem he'
      rw [List.getElem?_modify] at hj
      cases hg : es[j]? with
      | none => rw [hg] at hj; simp at hj
      | some y =>
        rw [hg] at hj
        have hy := h3 y (List.mem_of_getElem? hg)
        by_cases hij : i = j
        · simp [hij] at hj; subst hj; exact ⟨hy.1, hf⟩
        · simp [hij] at hj; subst hj; exact hy
  · rename_i hfd
    obtain ⟨k1, k2, k3, k4⟩ := aFind_run hfd fun e he => (h3 e he).1
    have := flat_eq 3 k k' k1 hk
    subst this
    cases hl
    refine ⟨_, ?_, turn _ _ ?_⟩
    · simp only [Instr.mapUpdate, Sem.run_bind, run_underlying hu, Result.andThen_ok, MapKept.run_getObj_map h1, k2, k3]
      rw [run_setObj_any h1 ⟨_, _, rfl⟩]
      simp
    · intro e' he'
      rw [List.mem_append, List.mem_singleton] at he'
      rcases he' with he' | rfl
      · exact h3 _ he'
      · exact ⟨k1, hf⟩
theorem aClear_run (h : Rel ι m w) {t ty : TypeId} {x : Value} {m' : Mem} (hl : aClear P m t x = some m') {x' : Value} (hx : VRel m.Has ι x x') :
    ∃ w', (Builtin.clear_ #[t] ty #[x']).run P w = .ok (.tuple #[]) w' ∧ Rel ι m' w' ∧ Step ι m w ι m' w' := by
  unfold aClear at hl
  split at hl <;> first | (cases hl; done) | skip
  rename_i kt et hu
  split at hl <;> first | (cases hl; done) | skip
  · cases hl; cases hx
    exact ⟨w, by simp [Builtin.clear_, run_underlying hu], h, Step.refl _ _ _⟩
  · split at hl <;> first | (cases hl; done) | skip
    rename_i b _ es c hb
    cases hl; cases hx
    obtain ⟨h1, h2, h3⟩ := h.oth _ _ hb
    obtain ⟨q1, q2, q3, q4⟩ := setBlock_rest w (ι b).blk (.map #[] c)
    obtain ⟨q5, q6⟩ := setBlock_at (o := .map #[] c) h1
    refine ⟨ChangeMaps.setBlock w (ι b).blk (.map #[] c), ?_, h.turnOther hb rfl h2 (fun _ _ _ e => by cases e) ⟨rfl, rfl, fun e he => by cases he⟩ q5 q6 q1 q2 q3 q4⟩
    simp [Builtin.clear_, run_underlying hu, MapKept.run_getObj_map h1, run_setObj_any h1 ⟨_, _, rfl⟩]
theorem aRange_run (h : Rel ι m w) {t : TypeId} {x v : Value} {m' : Mem} (hl : aRange P m t x = some (v, m')) {x' : Value} (hx : VRel m.Has ι x x') : Sim ι m w ((Instr.range t x').run P w) v m' := by
  unfold aRange at hl
  split at hl <;> first | (cases hl; done) | skip
  rename_i kt et hu
  split at hl <;> first | (cases hl; done) | skip
  split at hl <;> first | (cases hl; done) | skip
  rename_i b _ ro es c hb
  cases hl; cases hx
  rename_i hh
  obtain ⟨h1, h2, h3⟩ := h.oth _ _ hb
  obtain ⟨r1, r2⟩ := h.newOther (OneMore.alloc w (.mapIter (some (ι b).blk) c #[] c)) (.it false b c [] c) (fun _ _ _ e => by cases e) ⟨rfl, rfl, hh⟩
  exact ⟨_, _, _, by simp [Instr.range, run_underlying hu, MapKept.run_getObj_map h1, newObj, Sem.run], newPtr _ _, r1, r2⟩
theorem leftOf_eq (es : List MapEntry) (seen : List Nat) : (leftOf es.toArray seen.toArray).toList = aLeft es seen := by
  unfold leftOf aLeft
  simp
theorem aEntry_run (h : Rel ι m w) {x v : Value} (hl : aEntry m.get x = some v) {x' : Value} (hx : VRel m.Has ι x x') : (Instr.entry x').run P w = .ok v w ∧ VRel m.Has ι v v := by
  unfold aEntry at hl
  split at hl <;> first | (cases hl; done) | skip
  rename_i r
  split at hl <;> first | (cases hl; done) | skip
  rename_i ro b since seen last hr
  split at hl <;> first | (cases hl; done) | skip
  rename_i ro' es c hb
  split at hl <;> first | (cases hl; done) | skip
  rename_i hc
  split at hl <;> first | (cases hl; done) | skip
  rename_i st hst
  split at hl <;> first | (cases hl; done) | skip
  rename_i e he
  cases hl; cases hx
  obtain ⟨h1, h2, h3⟩ := h.oth _ _ hr
  obtain ⟨g1, g2, g3⟩ := h.oth _ _ hb
  have hfe := g3 e (List.mem_of_find?_eq_some he)
  refine ⟨?_, .tuples (.cons (flat_rel 3 _ hfe.1) (.cons (flat_rel 3 _ hfe.2) .nil))⟩
  rw [h2, Nat.zero_add]
  subst hc
  simp [Instr.entry, getObj, Sem.run, h1, g1, hst, he]
theorem aNext_run (h : Rel ι m w) {x : Value} {R : Value → Mem → Prop} (hl : aNext m x = some R) {x' : Value} (hx : VRel m.Has ι x x') (ty : TypeId) : ∃ v m', R v m' ∧ Sim ι m w ((Instr.next x' false ty).run P w) v m' := by
  unfold aNext at hl
  split at hl <;> first | (cases hl; done) | skip
  rename_i r
  split at hl <;> first | (cases hl; done) | skip
  rename_i b since seen last hr
  split at hl <;> first | (cases hl; done) | skip
  rename_i ro es c hb
  split at hl <;> first | (cases hl; done) | skip
  rename_i hc
  obtain ⟨hold, hsl⟩ := hc
  cases hl; cases hx
  obtain ⟨h1, h2, h3⟩ := h.oth _ _ hr
  obtain ⟨g1, g2, g3⟩ := h.oth _ _ hb
  have hold' : ∀ x ∈ es.toArray.toList, x.born < since := fun x hx => by simpa using List.all_eq_true.1 hold x (by simpa using hx)
  rw [h2, Nat.zero_add]
  rcases run_next_at (P := P) w ty (ι r).blk (ι b).blk since last seen.toArray es.toArray c h1 g1 hold' hsl with ⟨a1, a2⟩ | ⟨e, he, w1, hw1, a2⟩
  · refine ⟨_, m, .inl ⟨rfl, rfl, ?_⟩, .pure h a2 (.tuples (.cons (.bool _) .nil))⟩
    rw [← leftOf_eq]
    apply List.eq_nil_of_length_eq_zero
    simpa using a1
  · rw [leftOf_eq] at he
    refine ⟨_, _, .inr ⟨e, he, rfl, rfl⟩, ?_⟩
    have hfe := g3 e (by unfold aLeft at he; exact (List.mem_filter.1 he).1)
    have e0 : w1.heap[(ι r).blk]? = some (.mapIter (some (ι b).blk) since seen.toArray last) := by rcases hw1 with rfl | rfl <;> exact h1
    obtain ⟨q1, q2, q3, q4⟩ := setBlock_rest w1 (ι r).blk (.mapIter (some (ι b).blk) since (seen.toArray.push e.born) c)
    obtain ⟨q5, q6⟩ := setBlock_at (o := .mapIter (some (ι b).blk) since (seen.toArray.push e.born) c) e0
    obtain ⟨t1, t2⟩ := h.turnOther (w' := ChangeMaps.setBlock w1 (ι r).blk (.mapIter (some (ι b).blk) since (seen.toArray.push e.born) c)) (x := .it false b since (seen ++ [e.born]) c) hr rfl h2 (fun _ _ _ e => by cases e) (o := .mapIter (some (ι b).blk) since (seen.toArray.push e.born) c)
      ⟨by simp, rfl, Mem.get_has hb⟩ q5 (fun g hg => by rw [q6 g hg]; rcases hw1 with rfl | rfl <;> rfl) (by rw [q1]; rcases hw1 with rfl | rfl <;> rfl) (by rw [q2]; rcases hw1 with rfl | rfl <;> rfl) (by rw [q3]; rcases hw1 with rfl | rfl <;> rfl) (by rw [q4]; rcases hw1 with rfl | rfl <;> rfl)
    refine ⟨_, _, ι, a2, ?_, t1, t2⟩
    exact .tuples (.cons (.bool _) (.cons (flat_rel 3 _ hfe.1) (.cons (flat_rel 3 _ hfe.2) .nil)))
end
end Go.Proofs.YtfdijpacbhomjaaGreatDoor.Abs
namespace Go.Proofs.YtfdijpacbhomjaaGreatDoor.Abs
open Go
section
variable [Defs]
def evParts (a : List Value) : List (Nat × Operand) → Option (List (Nat × Value))
  | [] => some []
  | (i, x) :: r => match aEval a x with
    | some v => match evParts a r with
      | some l => some ((i, v) :: l)
      | none => none
    | none => none
def evArgs (a : List Value) : List Operand → Option (List Value)
  | [] => some []
  | x :: r => match aEval a x with
    | some v => match evArgs a r with
      | some l => some (v :: l)
      | none => none
    | none => none
def evOpt (a : List Value) : Option Operand → Option (Option Value)
  | none => some none
  | some x => match aEval a x with | some v => some (some v) | none => none
def evMin (b : Bool) : Value → List Value → Option Value
  | v, [] => some v
  | v, x :: r => match aMin2 b v x with
    | some u => evMin b u r
    | none => none
def evBuiltin (P : Program) (b : Builtin) (ts : List TypeId) (xs : List Value) (m : Mem) : Option (Value × Mem) :=
  match b with
  | .len => match ts, xs with | [t], [x] => (match aLen P t x with | some v => some (v, m) | none => none) | _, _ => none
  | .append => match ts, xs with | [t, tx], [s, x] => (match aAppend P m t tx s x with | some r => some r | none => aExtend P m t tx s x) | _, _ => none
  | .cap => match ts, xs with | [t], [.slice none 0 0] => (match P.underlying t with | some (.slice _) => some (.int .i64 0, m) | _ => none) | _, _ => none
  | .copy => match ts, xs with | [t, tx], [d, x] => aCopy P m t tx d x | _, _ => none
  | .min => match xs with | x :: r => (match evMin true x r with | some v => some (v, m) | none => none) | [] => none
  | .max => match xs with | x :: r => (match evMin false x r with | some v => some (v, m) | none => none) | [] => none
  | .clear => match ts, xs with | [t], [x] => (match aClear P m t x with | some m' => some (.tuple #[], m') | none => none) | _, _ => none
  | _ => none
def evConvert (P : Program) (src dst : TypeId) (x : Value) (m : Mem) : Option (Value × Mem) :=
  match x with
  | .int _ n => match P.underlying src with
    | some _ => match P.underlying dst with
      | some (.int k) => some (.int k (k.wrap n), m)
      | _ => none
    | none => none
  | .string s => match P.underlying dst with
    | some .string => match P.underlying src with | some _ => some (.string s, m) | none => none
    | _ => aToBytes P m src dst s
  | x => match aToString P m src dst x with | some v => some (v, m) | none => none
def pureV (o : Option Value) (m : Mem) : Option (Value × Mem) := match o with | some v => some (v, m) | none => none
def evOp (P : Program) (o : Op) (a : List Value) (m : Mem) : Option (Value × Mem) :=
  match o with
  | .move x | .assign x => pureV (aEval a x) m
  | .pick c x y => match aEval a c with
    | some (.bool true) => pureV (aEval a x) m
    | some (.bool false) => pureV (aEval a y) m
    | _ => none
  | .alloc t => aAlloc P m t
  | .box t x => match aEval a x with | some v => aBox P m t v | none => none
  | .build t ps => match evParts a ps.toList with | some l => pureV (aBuild P t l) m | none => none
  | .buildSlice t n ps => match evParts a ps.toList with | some l => aBuildSlice P m t n l | none => none
  | .load t p => match aEval a p with | some v => pureV (aLoad P m t v) m | none => none
  | .store t p x => match aEval a p with
    | some q => match aEval a x with
      | some v => match aStore P m t q v with | some m' => some (undef, m') | none => none
      | none => none
    | none => none
  | .nilCheck x => match aEval a x with
    | some (.pointer (some q)) => some (.pointer (some q), m)
    | some (.func (.func f) xs ys) => some (.func (.func f) xs ys, m)
    | _ => none
  | .binOp op t x y _ => match aEval a x with
    | some u => match aEval a y with
      | some v => pureV (aBin P op t (isC x || isC y) u v) m
      | none => none
    | none => none
  | .unOp op _ x => match aEval a x with | some v => pureV (aUn op v) m | none => none
  | .convert s d x => match aEval a x with | some v => evConvert P s d v m | none => none
  | .makeInterface t x => match aEval a x with
    | some v => match P.underlying t with
      | some (.interface _) => none
      | some _ => some (.iface t v, m)
      | none => none
    | none => none
  | .makeFunc (.func f) fs cs => match evArgs a fs.toList with
    | some l => match evArgs a cs.toList with
      | some r => some (.func (.func f) l.toArray r.toArray, m)
      | none => none
    | none => none
  | .makeSlice t l c => match aEval a l with
    | some u => match aEval a c with
      | some v => aMakeSlice P m t u v
      | none => none
    | none => none
  | .slice t x lo hi none => match aEval a x with
    | some v => match evOpt a lo with
      | some l => match evOpt a hi with
        | some h => pureV (aSlice P m t v l h) m
        | none => none
      | none => none
    | none => none
  | .fieldAddr t x f => match aEval a x with | some v => pureV (aFieldAddr P t v f) m | none => none
  | .field t x f => match aEval a x with
    | some (.agg cs) => match P.underlying t with
      | some (.struct fs) => match fs.toList[f]? with
        | some fd => pureV (aPart P fd.type cs.toList fd.offset) m
        | none => none
      | _ => none
    | _ => none
  | .indexAddr t x i => match aEval a x with
    | some v => match aEval a i with
      | some j => pureV (aIndexAddr P t v j) m
      | none => none
    | none => none
  | .index t x i => match aEval a x with
    | some v => match aEval a i with
      | some j => pureV (aIndex P t v j) m
      | none => none
    | none => none
  | .extract x i => match aEval a x with
    | some (.tuple cs) => pureV cs.toList[i]? m
    | _ => none
  | .makeMap _ none => some (.map (some m.size), m.push (.kv false [] 0))
  | .lookup t x i ok => match aEval a x with
    | some v => match aEval a i with
      | some k => pureV (aLookup P m.get t v k ok) m
      | none => none
    | none => none
  | .mapUpdate t x i y => match aEval a x with
    | some v => match aEval a i with
      | some k => match aEval a y with
        | some u => match aMapUpdate P m t v k u with | some m' => some (undef, m') | none => none
        | none => none
      | none => none
    | none => none
  | .range t x => match aEval a x with | some v => aRange P m t v | none => none
  | .entry x => match aEval a x with | some v => pureV (aEntry m.get v) m | none => none
  | .call { callee := .builtin b, args, argTypes } => match evArgs a args.toList with
    | some xs => evBuiltin P b argTypes.toList xs m
    | none => none
  | _ => none
section sim
variable {P : Program} {ι : Nat → Loc} {m : Mem} {w : World}
def Ran (P : Program) (o : Oper) (act : Act) (w : World) (v' : Value) (w' : World) : Prop :=
  (execOp act.eval o).run P w = .ok (.value v') w' ∨ ((execOp act.eval o).run P w = .ok .skip w' ∧ v' = undef)
def OSim (P : Program) (ι : Nat → Loc) (m : Mem) (w : World) (o : Oper) (act : Act) (v : Value) (m' : Mem) : Prop :=
  ∃ v' w' κ, Ran P o act w v' w' ∧ VRel m'.Has κ v v' ∧ Rel κ m' w' ∧ Step ι m w κ m' w'
theorem OSim.same (h : Rel ι m w) {o : Oper} {act : Act} {v v' : Value} (hr : (execOp act.eval o).run P w = .ok (.value v') w) (hv : VRel m.Has ι v v') : OSim P ι m w o act v m :=
  ⟨v', w, ι, .inl hr, hv, h, Step.refl _ _ _⟩
theorem OSim.of (_ : Rel ι m w) {o : Oper} {act : Act} {v : Value} {m' : Mem} {s : Sem Value} (he : execOp act.eval o = (do pure (.value (← s)) : Sem Next)) (hs : Sim ι m w (s.run P w) v m') : OSim P ι m w o act v m' := by
  obtain ⟨v', w', κ, h1, h2⟩ := hs
  exact ⟨v', w', κ, .inl (by rw [he]; simp [h1]), h2⟩
theorem OSim.ofPure (h : Rel ι m w) {o : Oper} {act : Act} {v : Value} {s : Sem Value} (he : execOp act.eval o = (do pure (.value (← s)) : Sem Next)) (hs : ∃ v', (∀ w, s.run P w = .ok v' w) ∧ VRel m.Has ι v v') : OSim P ι m w o act v m := by
  obtain ⟨v', h1, h2⟩ := hs
  exact OSim.same h (by rw [he]; simp [h1 w]) h2
theorem evParts_rel {n : Nat → Prop} {a : List Value} {act : Act} (ha : ARel n ι a act) : ∀ {ps : List (Nat × Operand)} {l : List (Nat × Value)}, evParts a ps = some l → PRel n ι l (ps.map fun p => (p.1, act.eval p.2))
  | [], l, h => by cases h; exact .nil
  | (i, x) :: r, l, h => by
    unfold evParts at h
    split at h <;> first | (cases h; done) | skip
    rename_i v hv
    split at h <;> first | (cases h; done) | skip
    rename_i l' hl
    cases h
    exact .cons i (aEval_rel ha hv) (evParts_rel ha hl)
theorem evArgs_rel {n : Nat → Prop} {a : List Value} {act : Act} (ha : ARel n ι a act) : ∀ {xs : List Operand} {l : List Value}, evArgs a xs = some l → VRels n ι l (xs.map act.eval)
  | [], l, h => by cases h; exact .nil
  | x :: r, l, h => by
    unfold evArgs at h
    split at h <;> first | (cases h; done) | skip
    rename_i v hv
    split at h <;> first | (cases h; done) | skip
    rename_i l' hl
    cases h
    exact .cons (aEval_rel ha hv) (evArgs_rel ha hl)
theorem evOpt_rel {n : Nat → Prop} {a : List Value} {act : Act} (ha : ARel n ι a act) {x : Option Operand} {l : Option Value} (h : evOpt a x = some l) : ORel n ι l (x.map act.eval) := by
  unfold evOpt at h
  split at h
  · cases h; trivial
  · split at h <;> first | (cases h; done) | skip
    rename_i v hv
    cases h
    exact aEval_rel ha hv
theorem pureV_spec {o : Option Value} {m m' : Mem} {v : Value} (h : pureV o m = some (v, m')) : o = some v ∧ m' = m := by
  unfold pureV at h
  split at h <;> cases h
  exact ⟨rfl, rfl⟩
theorem VRels.two {n : Nat → Prop} {x y : Value} {us : List Value} (h : VRels n ι [x, y] us) : ∃ x' y', us = [x', y'] ∧ VRel n ι x x' ∧ VRel n ι y y' := by
  have hl := h.1
  match us, hl with
  | [x', y'], _ => exact ⟨x', y', rfl, h.2 0 x x' rfl rfl, h.2 1 y y' rfl rfl⟩
theorem VRels.one' {n : Nat → Prop} {x : Value} {us : List Value} (h : VRels n ι [x] us) : ∃ x', us = [x'] ∧ VRel n ι x x' := by
  have hl := h.1
  match us, hl with
  | [x'], _ => exact ⟨x', rfl, h.2 0 x x' rfl rfl⟩
theorem VRels.head {n : Nat → Prop} {x : Value} {xs us : List Value} (h : VRels n ι (x :: xs) us) : ∃ x' us', us = x' :: us' ∧ VRel n ι x x' ∧ VRels n ι xs us' := by
  have hl := h.1
  match us, hl with
  | x' :: us', hl => exact ⟨x', us', rfl, h.2 0 x x' rfl rfl, by simpa using hl, fun i a b ha hb => h.2 (i + 1) a b (by simpa using ha) (by simpa using hb)⟩
theorem evMin_run {n : Nat → Prop} {b : Bool} : ∀ {xs : List Value} {v u v' : Value} {us : List Value}, evMin b v xs = some u → VRel n ι v v' → VRels n ι xs us →
    (∀ w, (us.foldlM (if b then Builtin.min2 else Builtin.max2) v').run P w = .ok u w) ∧ VRel n ι u u ∨ (xs = [] ∧ u = v ∧ us = [])
  | [], v, u, v', us, h, hv, hr => by
    cases h
    exact .inr ⟨rfl, rfl, List.eq_nil_of_length_eq_zero hr.1.symm⟩
  | x :: xs, v, u, v', us, h, hv, hr => by
    left
    obtain ⟨x', us', rfl, hx, hrs⟩ := hr.head
    unfold evMin at h
    split at h <;> first | (cases h; done) | skip
    rename_i y hy
    obtain ⟨h1, h2⟩ := aMin2_run (P := P) hy hv hx
    have hf : ∀ w, ((if b then Builtin.min2 else Builtin.max2) v' x').run P w = .ok y w := fun w => by
      have := h1 w
      cases b <;> exact this
    rcases evMin_run h h2 hrs with h3 | ⟨h3, h4, h5⟩
    · refine ⟨fun w => ?_, h3.2⟩
      rw [List.foldlM_cons, Sem.run_bind, hf w, Result.andThen_ok]
      exact h3.1 w
    · subst h3; subst h4; subst h5
      refine ⟨fun w => ?_, h2⟩
      rw [List.foldlM_cons, Sem.run_bind, hf w, Result.andThen_ok]
      rfl
theorem evOp_run {o : Oper} {a : List Value} {act : Act} {v : Value} {m' : Mem} (hr : Rel ι m w) (ha : ARel m.Has ι a act) (h : evOp P o.op a m = some (v, m')) : OSim P ι m w o act v m' := by
  obtain ⟨dst, op, type, pos, after, guard⟩ := o
  have hst : ∀ b ro s cs, m.get b = some (.cells ro s cs) → (ι b).stride = s := fun b ro s cs hb => by
    obtain ⟨_, _, _, _, _, hs, _⟩ := hr.at' b ro s cs hb
    exact hs.eq
  cases op
  case move x =>
    obtain ⟨h0, rfl⟩ := pureV_spec h
    replace h := h0
    exact OSim.same hr rfl (aEval_rel ha h)
  case assign x =>
    obtain ⟨h0, rfl⟩ := pureV_spec h
    replace h := h0
    exact OSim.same hr rfl (aEval_rel ha h)
  case pick c x y =>
    simp only [evOp] at h
    split at h <;> first | (cases h; done) | skip
    all_goals
      rename_i hc
      obtain ⟨h0, rfl⟩ := pureV_spec h
      replace h := h0
      have hc' := aEval_rel ha hc
      generalize he : act.eval c = y' at hc'
      cases hc'
      exact OSim.same hr (v' := act.eval _) (by simp [execOp, he, asBool]) (aEval_rel ha h)
  case alloc t =>
    exact OSim.of hr rfl (aAlloc_run hr h)
  case box t x =>
    simp only [evOp] at h
    split at h <;> first | (cases h; done) | skip
    rename_i hv
    exact OSim.of hr rfl (aBox_run hr h (aEval_rel ha hv))
  case build t ps =>
    simp only [evOp] at h
    split at h <;> first | (cases h; done) | skip
    rename_i l hl
    obtain ⟨h0, rfl⟩ := pureV_spec h
    replace h := h0
    refine OSim.ofPure hr rfl (aBuild_run h ?_)
    have := evParts_rel ha hl
    rw [Array.toList_map]
    exact this
  case buildSlice t n ps =>
    simp only [evOp] at h
    split at h <;> first | (cases h; done) | skip
    rename_i l hl
    refine OSim.of hr rfl (aBuildSlice_run hr h ?_)
    have := evParts_rel ha hl
    rw [Array.toList_map]
    exact this
  case load t p =>
    simp only [evOp] at h
    split at h <;> first | (cases h; done) | skip
    rename_i q hq
    obtain ⟨h0, rfl⟩ := pureV_spec h
    replace h := h0
    obtain ⟨v', h1, h2⟩ := aLoad_run hr h (aEval_rel ha hq)
    exact OSim.same hr (by simp [execOp, h1]) h2
  case store t p x =>
    simp only [evOp] at h
    split at h <;> first | (cases h; done) | skip
    rename_i q hq
    split at h <;> first | (cases h; done) | skip
    rename_i u hu
    split at h <;> first | (cases h; done) | skip
    rename_i m1 hm1
    cases h
    obtain ⟨w', h1, h2, h3⟩ := aStore_run hr hm1 (aEval_rel ha hq) (aEval_rel ha hu)
    exact ⟨undef, w', ι, .inr ⟨by simp [execOp, h1], rfl⟩, .tuple _ _ rfl (fun i x y hx => by simp at hx), h2, h3⟩
  case nilCheck x =>
    simp only [evOp] at h
    split at h <;> first | (cases h; done) | skip
    · rename_i q hq
      cases h
      have hx := aEval_rel ha hq
      generalize he : act.eval x = y at hx
      have hx0 := hx
      cases hx
      exact OSim.same hr (by simp [execOp, he]) hx0
    · rename_i f xs ys hq
      cases h
      have hx := aEval_rel ha hq
      generalize he : act.eval x = y at hx
      have hx0 := hx
      cases hx
      exact OSim.same hr (by simp [execOp, he]) hx0
  case binOp op t x y ty =>
    simp only [evOp] at h
    split at h <;> first | (cases h; done) | skip
    rename_i u hu
    split at h <;> first | (cases h; done) | skip
    rename_i q hq
    obtain ⟨h0, rfl⟩ := pureV_spec h
    replace h := h0
    exact OSim.ofPure hr rfl (aBin_run h (aEval_rel ha hu) (aEval_rel ha hq))
  case unOp op t x =>
    simp only [evOp] at h
    split at h <;> first | (cases h; done) | skip
    rename_i u hu
    obtain ⟨h0, rfl⟩ := pureV_spec h
    replace h := h0
    exact OSim.ofPure hr rfl (aUn_run h (aEval_rel ha hu))
  case convert s d x =>
    simp only [evOp] at h
    split at h <;> first | (cases h; done) | skip
    rename_i u hu
    have hx := aEval_rel ha hu
    unfold evConvert at h
    split at h
    · rename_i k n
      split at h <;> first | (cases h; done) | skip
      rename_i ds hs
      split at h <;> first | (cases h; done) | skip
      rename_i k' hd
      cases h
      generalize he : act.eval x = y at hx
      cases hx
      exact OSim.same hr (by simp [execOp, he, convert, run_underlying hs, run_underlying hd, Conv.intToInt]) (.int _ _)
    · rename_i q
      split at h
      · rename_i hd
        split at h <;> first | (cases h; done) | skip
        rename_i ds hs
        cases h
        generalize he : act.eval x = y at hx
        cases hx
        exact OSim.same hr (by simp [execOp, he, convert, run_underlying hs, run_underlying hd]) (.string _)
      · have hs := aToBytes_run hr h
        generalize he : act.eval x = y at hx
        cases hx
        refine OSim.of hr (s := convert s d (.string q)) ?_ hs
        simp only [execOp, he]
    · split at h <;> first | (cases h; done) | skip
      rename_i v1 hv1
      cases h
      obtain ⟨v', h1, h2⟩ := aToString_run hr hv1 hx
      exact OSim.same hr (by simp [execOp, h1]) h2
  case makeInterface t x =>
    simp only [evOp] at h
    split at h <;> first | (cases h; done) | skip
    rename_i u hu
    split at h <;> first | (cases h; done) | skip
    rename_i d hni hd
    cases h
    refine OSim.same hr (v' := .iface t (act.eval x)) ?_ (.iface t _ _ (aEval_rel ha hu))
    simp only [execOp, Sem.run_bind, Instr.makeInterface, run_underlying hd w, Result.andThen_ok]
    cases d <;> first | rfl | exact absurd hd (hni _)
  case makeFunc fn fs cs =>
    cases fn <;> simp only [evOp] at h <;> first | (cases h; done) | skip
    split at h <;> first | (cases h; done) | skip
    rename_i l hl
    split at h <;> first | (cases h; done) | skip
    rename_i r hr2
    cases h
    have h1 := evArgs_rel ha hl
    have h2 := evArgs_rel ha hr2
    refine OSim.same hr (v' := .func (.func _) (fs.map act.eval) (cs.map act.eval)) rfl (.func _ _ _ _ _ (by simpa using h1.1) (fun i x y hx hy => ?_) (by simpa using h2.1) (fun i x y hx hy => ?_))
    · exact h1.2 i x y (by simpa using hx) (by rw [← Array.toList_map, Array.getElem?_toList]; exact hy)
    · exact h2.2 i x y (by simpa using hx) (by rw [← Array.toList_map, Array.getElem?_toList]; exact hy)
  case makeSlice t l c =>
    simp only [evOp] at h
    split at h <;> first | (cases h; done) | skip
    rename_i u hu
    split at h <;> first | (cases h; done) | skip
    rename_i q hq
    exact OSim.of hr rfl (aMakeSlice_run hr h (aEval_rel ha hu) (aEval_rel ha hq))
  case slice t x lo hi mx =>
    cases mx <;> simp only [evOp] at h <;> first | (cases h; done) | skip
    split at h <;> first | (cases h; done) | skip
    rename_i u hu
    split at h <;> first | (cases h; done) | skip
    rename_i l hl
    split at h <;> first | (cases h; done) | skip
    rename_i hh hhh
    obtain ⟨h0, rfl⟩ := pureV_spec h
    replace h := h0
    exact OSim.ofPure hr rfl (aSlice_run hst h (aEval_rel ha hu) (evOpt_rel ha hl) (evOpt_rel ha hhh))
  case fieldAddr t x f =>
    simp only [evOp] at h
    split at h <;> first | (cases h; done) | skip
    rename_i u hu
    obtain ⟨h0, rfl⟩ := pureV_spec h
    replace h := h0
    exact OSim.ofPure hr rfl (aFieldAddr_run h (aEval_rel ha hu))
  case field t x f =>
    simp only [evOp] at h
    split at h <;> first | (cases h; done) | skip
    rename_i cs hcs
    split at h <;> first | (cases h; done) | skip
    rename_i fs hu
    split at h <;> first | (cases h; done) | skip
    rename_i fd hf
    obtain ⟨h0, rfl⟩ := pureV_spec h
    replace h := h0
    exact OSim.ofPure hr rfl (aField_run hu hf h (aEval_rel ha hcs))
  case indexAddr t x i =>
    simp only [evOp] at h
    split at h <;> first | (cases h; done) | skip
    rename_i u hu
    split at h <;> first | (cases h; done) | skip
    rename_i q hq
    obtain ⟨h0, rfl⟩ := pureV_spec h
    replace h := h0
    exact OSim.ofPure hr rfl (aIndexAddr_run h (aEval_rel ha hu) (aEval_rel ha hq))
  case index t x i =>
    simp only [evOp] at h
    split at h <;> first | (cases h; done) | skip
    rename_i u hu
    split at h <;> first | (cases h; done) | skip
    rename_i q hq
    obtain ⟨h0, rfl⟩ := pureV_spec h
    replace h := h0
    exact OSim.ofPure hr rfl (aIndex_run h (aEval_rel ha hu) (aEval_rel ha hq))
  case extract x i =>
    simp only [evOp] at h
    split at h <;> first | (cases h; done) | skip
    rename_i cs hcs
    obtain ⟨h0, rfl⟩ := pureV_spec h
    replace h := h0
    exact OSim.ofPure hr rfl (aExtract_run h (aEval_rel ha hcs))
  case makeMap t r =>
    cases r <;> simp only [evOp] at h <;> first | (cases h; done) | skip
    cases h
    exact OSim.of hr rfl (aMakeMap_run hr t)
  case lookup t x i ok =>
    simp only [evOp] at h
    split at h <;> first | (cases h; done) | skip
    rename_i u hu
    split at h <;> first | (cases h; done) | skip
    rename_i q hq
    obtain ⟨h0, rfl⟩ := pureV_spec h
    obtain ⟨v', h1, h2⟩ := aLookup_run hr h0 (aEval_rel ha hu) (aEval_rel ha hq)
    exact OSim.same hr (by simp [execOp, h1]) h2
  case mapUpdate t x i y =>
    simp only [evOp] at h
    split at h <;> first | (cases h; done) | skip
    rename_i u hu
    split at h <;> first | (cases h; done) | skip
    rename_i q hq
    split at h <;> first | (cases h; done) | skip
    rename_i y hy
    split at h <;> first | (cases h; done) | skip
    rename_i m1 hm1
    cases h
    obtain ⟨w', h1, h2, h3⟩ := aMapUpdate_run hr hm1 (aEval_rel ha hu) (aEval_rel ha hq) (aEval_rel ha hy)
    exact ⟨undef, w', ι, .inr ⟨by simp [execOp, h1], rfl⟩, .tuple _ _ rfl (fun i x y hx => by simp at hx), h2, h3⟩
  case entry x =>
    simp only [evOp] at h
    split at h <;> first | (cases h; done) | skip
    rename_i u hu
    obtain ⟨h0, rfl⟩ := pureV_spec h
    obtain ⟨h1, h2⟩ := aEntry_run (P := P) hr h0 (aEval_rel ha hu)
    exact OSim.same hr (by simp [execOp, h1]) h2
  case range t x =>
    simp only [evOp] at h
    split at h <;> first | (cases h; done) | skip
    rename_i u hu
    exact OSim.of hr rfl (aRange_run hr h (aEval_rel ha hu))
  case call c =>
    obtain ⟨callee, args, ts⟩ := c
    cases callee <;> simp only [evOp] at h <;> first | (cases h; done) | skip
    rename_i b
    split at h <;> first | (cases h; done) | skip
    rename_i xs hxs
    have hargs := evArgs_rel ha hxs
    cases b <;> simp only [evBuiltin] at h <;> first | (cases h; done) | skip
    case len =>
      split at h <;> first | (cases h; done) | skip
      rename_i t x hts
      split at h <;> first | (cases h; done) | skip
      rename_i u hu
      cases h
      obtain ⟨x', he, hx'⟩ := hargs.one'
      obtain ⟨v', h1, h2⟩ := aLen_run (ty := type) hu hx'
      refine OSim.same hr (v' := v') ?_ h2
      have e1 : (args.map act.eval) = #[x'] := by rw [← Array.toList_inj, Array.toList_map, he]
      have e2 : ts = #[t] := by rw [← Array.toList_inj, hts]
      simp [execOp, resolve, invoke, builtin, e1, e2, h1 w]
    case append =>
      split at h <;> first | (cases h; done) | skip
      rename_i t tx s x hts
      obtain ⟨s', x', he, hs', hx'⟩ := hargs.two
      have e1 : (args.map act.eval) = #[s', x'] := by rw [← Array.toList_inj, Array.toList_map, he]
      have e2 : ts = #[t, tx] := by rw [← Array.toList_inj, hts]
      split at h
      · rename_i r hq
        cases h
        refine OSim.of hr (s := Builtin.append_ #[t, tx] type #[s', x']) ?_ (aAppend_run hr hq hs' hx')
        simp [execOp, resolve, invoke, builtin, e1, e2]
      refine OSim.of hr (s := Builtin.append_ #[t, tx] type #[s', x']) ?_ (aExtend_run hr h hs' hx')
      simp [execOp, resolve, invoke, builtin, e1, e2]
    case cap =>
      split at h <;> first | (cases h; done) | skip
      rename_i t hts
      split at h <;> first | (cases h; done) | skip
      rename_i e hu
      cases h
      obtain ⟨x', he, hx'⟩ := hargs.one'
      cases hx'
      have e1 : (args.map act.eval) = #[.slice none 0 0] := by rw [← Array.toList_inj, Array.toList_map, he]
      have e2 : ts = #[t] := by rw [← Array.toList_inj, hts]
      refine OSim.same hr (v' := .int .i64 0) ?_ (.int _ _)
      simp [execOp, resolve, invoke, builtin, e1, e2, Builtin.cap_, run_underlying hu, goInt]
    case copy =>
      split at h <;> first | (cases h; done) | skip
      rename_i t tx s x hts
      obtain ⟨s', x', he, hs', hx'⟩ := hargs.two
      have e1 : (args.map act.eval) = #[s', x'] := by rw [← Array.toList_inj, Array.toList_map, he]
      have e2 : ts = #[t, tx] := by rw [← Array.toList_inj, hts]
      refine OSim.of hr (s := Builtin.copy_ #[t, tx] type #[s', x']) ?_ (aCopy_run hr h hs' hx')
      simp [execOp, resolve, invoke, builtin, e1, e2]
    case clear =>
      split at h <;> first | (cases h; done) | skip
      rename_i t x hts
      split at h <;> first | (cases h; done) | skip
      rename_i u hu
      cases h
      obtain ⟨x', he, hx'⟩ := hargs.one'
      obtain ⟨w', h1, h2, h3⟩ := aClear_run (ty := type) hr hu hx'
      have e1 : (args.map act.eval) = #[x'] := by rw [← Array.toList_inj, Array.toList_map, he]
      have e2 : ts = #[t] := by rw [← Array.toList_inj, hts]
      refine ⟨.tuple #[], w', ι, .inl ?_, .tuple _ _ rfl (fun i x y hx => by simp at hx), h2, h3⟩
      simp [execOp, resolve, invoke, builtin, e1, e2, h1]
    case min =>
      split at h <;> first | (cases h; done) | skip
      rename_i x r
      split at h <;> first | (cases h; done) | skip
      rename_i u hu
      cases h
      obtain ⟨x', us', he, hx, hrs⟩ := hargs.head
      have e1 : (args.map act.eval) = (x' :: us').toArray := by rw [← Array.toList_inj, Array.toList_map, he]
      rcases evMin_run (P := P) hu hx hrs with ⟨h3, h4⟩ | ⟨h3, h4, h5⟩
      · refine OSim.same hr ?_ h4
        have := h3 w
        simp only [if_true] at this
        simp [execOp, resolve, invoke, builtin, e1, Builtin.min_, this]
      · subst h3; subst h4; subst h5
        exact OSim.same hr (v' := x') (by simp [execOp, resolve, invoke, builtin, e1, Builtin.min_]) hx
    case max =>
      split at h <;> first | (cases h; done) | skip
      rename_i x r
      split at h <;> first | (cases h; done) | skip
      rename_i u hu
      cases h
      obtain ⟨x', us', he, hx, hrs⟩ := hargs.head
      have e1 : (args.map act.eval) = (x' :: us').toArray := by rw [← Array.toList_inj, Array.toList_map, he]
      rcases evMin_run (P := P) hu hx hrs with ⟨h3, h4⟩ | ⟨h3, h4, h5⟩
      · refine OSim.same hr ?_ h4
        have := h3 w
        simp only [Bool.false_eq_true, if_false] at this
        simp [execOp, resolve, invoke, builtin, e1, Builtin.max_, this]
      · subst h3; subst h4; subst h5
        exact OSim.same hr (v' := x') (by simp [execOp, resolve, invoke, builtin, e1, Builtin.max_]) hx
  all_goals (simp only [evOp] at h; cases h)
def evAny (o : Op) (a : List Value) (m : Mem) : Option (Value → Mem → Prop) := match o with
  | .next it false => match aEval a it with | some v => aNext m v | none => none
  | _ => none
theorem evAny_run {o : Oper} {a : List Value} {act : Act} {R : Value → Mem → Prop} (hr : Rel ι m w) (ha : ARel m.Has ι a act) (h : evAny o.op a m = some R) : ∃ v m', R v m' ∧ OSim P ι m w o act v m' := by
  obtain ⟨dst, op, type, pos, after, guard⟩ := o
  unfold evAny at h
  split at h <;> first | (cases h; done) | skip
  rename_i it ho
  split at h <;> first | (cases h; done) | skip
  rename_i v hv
  cases ho
  obtain ⟨u, m', h1, h2⟩ := aNext_run (P := P) hr h (aEval_rel ha hv) type
  exact ⟨u, m', h1, OSim.of hr rfl h2⟩
end sim
end
end Go.Proofs.YtfdijpacbhomjaaGreatDoor.Abs
namespace Go.Proofs.YtfdijpacbhomjaaGreatDoor.Abs
open Go
section
variable [Defs]
section
variable {P : Program}
def Spec (P : Program) (f : FuncId) (xs : List Value) (m : Mem) (R : Value → Mem → Prop) : Prop :=
  ∀ (ι : Nat → Loc) (w : World) (ys : List Value), VRels m.Has ι xs ys → Rel ι m w →
    Calls P f ys.toArray w fun e w' => ∃ v v' κ m', R v m' ∧ e = .returned v' ∧ VRel m'.Has κ v v' ∧ Rel κ m' w' ∧ Step ι m w κ m' w'
theorem Spec.mono {f : FuncId} {xs : List Value} {m : Mem} {R R' : Value → Mem → Prop} (h : Spec P f xs m R) (hr : ∀ v m', R v m' → R' v m') : Spec P f xs m R' :=
  fun ι w ys hy hw => (h ι w ys hy hw).mono fun _ _ ⟨v, v', κ, m', h1, h2⟩ => ⟨v, v', κ, m', hr v m' h1, h2⟩
def entered (P : Program) (k : FuncId) : Bool :=
  match P.funcs[k]? with
  | some fn => fn.body.isSome && !(fn.name == "runtime.NumGoroutine")
  | none => false
def evCallee (a : List Value) (o : Op) : Option (FuncId × List Value) :=
  match o with
  | .call { callee := .value f, args, .. } => match aEval a f with
    | some (.func (.func k) fs cs) => match evArgs a args.toList with
      | some xs => some (k, fs.toList ++ xs ++ cs.toList)
      | none => none
    | _ => none
  | _ => none
theorem evCallee_run {n : Nat → Prop} {ι : Nat → Loc} {o : Oper} {a : List Value} {act : Act} {k : FuncId} {xs : List Value} (ha : ARel n ι a act) (h : evCallee a o.op = some (k, xs)) (he : entered P k = true) :
    ∃ ys, VRels n ι xs ys ∧ ∀ w, (execOp act.eval o).run P w = .ok (.enter k ys.toArray) w := by
  obtain ⟨dst, op, type, pos, after, guard⟩ := o
  cases op <;> simp only [evCallee] at h <;> first | (cases h; done) | skip
  rename_i c
  obtain ⟨callee, args, ts⟩ := c
  cases callee <;> simp only at h <;> first | (cases h; done) | skip
  rename_i f
  split at h <;> first | (cases h; done) | skip
  rename_i k' fs cs hf
  split at h <;> first | (cases h; done) | skip
  rename_i xs' hxs
  cases h
  have hargs := evArgs_rel ha hxs
  have hfr := aEval_rel ha hf
  generalize hff : act.eval f = fv at hfr
  cases hfr with
  | func _ _ ys _ ws hs hh hs2 hh2 =>
    refine ⟨ys.toList ++ args.toList.map act.eval ++ ws.toList, ?_, fun w => ?_⟩
    · refine (VRels.append ⟨by simpa using hs, fun i x y hx hy => hh i x y (by simpa using hx) (by simpa using hy)⟩ hargs).append ⟨by simpa using hs2, fun i x y hx hy => hh2 i x y (by simpa using hx) (by simpa using hy)⟩
    · unfold entered at he
      cases hk : P.funcs[k]? with
      | none => rw [hk] at he; cases he
      | some fn =>
        rw [hk] at he
        simp only [Bool.and_eq_true, Bool.not_eq_true'] at he
        have hb : fn.body.isNone = false := by
          cases hb : fn.body with
          | none => rw [hb] at he; cases he.1
          | some _ => rfl
        have hcall : (callFunc k (ys ++ args.map act.eval ++ ws)).run P w = .ok (.enter k (ys ++ args.map act.eval ++ ws)) w := by
          simp only [callFunc, Sem.run_bind, run_program, Result.andThen_ok, hk, he.2, hb, Bool.false_eq_true, if_false]
          rfl
        simp only [execOp, resolve, Deferred.ofValue, hff, Sem.run_bind, Sem.run_pure, Result.andThen_ok, invoke, hcall]
        congr 2
        apply Array.ext'
        simp
def Post (ι : Nat → Loc) (m : Mem) (w : World) (Q : Exit → List Value → Mem → Prop) : Exit → Act → World → Prop := fun e act w' =>
  ∃ κ a m', Q e a m' ∧ ARel m'.Has κ a act ∧ Rel κ m' w' ∧ Step ι m w κ m' w'
def AW (P : Program) (c : Code) (Q : Exit → List Value → Mem → Prop) (a : List Value) (m : Mem) : Prop :=
  ∀ (ι₀ : Nat → Loc) (m₀ : Mem) (w₀ : World) (ι : Nat → Loc) (act : Act) (w : World), Step ι₀ m₀ w₀ ι m w → ARel m.Has ι a act → Rel ι m w → c.wp P (Post ι₀ m₀ w₀ Q) act w
variable {Q : Exit → List Value → Mem → Prop} {a : List Value} {m : Mem}
theorem AW.mono {c : Code} {Q' : Exit → List Value → Mem → Prop} (h : AW P c Q a m) (hq : ∀ e a m, Q e a m → Q' e a m) : AW P c Q' a m :=
  fun ι₀ m₀ w₀ ι act w hs ha hr => wp_mono (h ι₀ m₀ w₀ ι act w hs ha hr) fun _ _ _ ⟨κ, a', m', h1, h2⟩ => ⟨κ, a', m', hq _ _ _ h1, h2⟩
theorem AW_skip (h : Q .normal a m) : AW P .skip Q a m := fun _ _ _ ι _ _ hs ha hr => wp_skip ⟨ι, a, m, h, ha, hr, hs⟩
theorem AW_label {l : Nat} (h : Q .normal a m) : AW P (.label l) Q a m := fun _ _ _ ι _ _ hs ha hr => wp_label ⟨ι, a, m, h, ha, hr, hs⟩
theorem AW_exit {id : Nat} (h : Q (.exit id) a m) : AW P (.exit id) Q a m := fun _ _ _ ι _ _ hs ha hr => wp_exit ⟨ι, a, m, h, ha, hr, hs⟩
theorem AW_ret (h : Q .ret a m) : AW P .ret Q a m := fun _ _ _ ι _ _ hs ha hr => wp_ret ⟨ι, a, m, h, ha, hr, hs⟩
def thenA (next : List Value → Mem → Prop) (Q : Exit → List Value → Mem → Prop) : Exit → List Value → Mem → Prop
  | .normal, a, m => next a m
  | e, a, m => Q e a m
theorem AW_seq {x y : Code} (h : AW P x (thenA (AW P y Q) Q) a m) : AW P (.seq x y) Q a m := by
  intro ι₀ m₀ w₀ ι act w hs ha hr
  refine wp_seq (wp_mono (h ι₀ m₀ w₀ ι act w hs ha hr) ?_)
  rintro e act' w' ⟨κ, a', m', h1, h2, h3, h4⟩
  cases e with
  | normal => exact h1 ι₀ m₀ w₀ κ act' w' h4 h2 h3
  | _ => exact ⟨κ, a', m', h1, h2, h3, h4⟩
theorem AW_cond {c : Operand} {x y : Code} {t : Bool} (hc : aEval a c = some (.bool t)) (ht : t = true → AW P x Q a m) (hf : t = false → AW P y Q a m) : AW P (.cond c x y) Q a m := by
  intro ι₀ m₀ w₀ ι act w hs ha hr
  have he := aEval_rel ha hc
  generalize hv : act.eval c = v at he
  cases he
  refine wp_cond_split hv (fun h => ht h ι₀ m₀ w₀ ι act w hs ha hr) (fun h => hf h ι₀ m₀ w₀ ι act w hs ha hr)
def inBlockA (id : Nat) (Q : Exit → List Value → Mem → Prop) : Exit → List Value → Mem → Prop
  | .exit id', a, m => if id' = id then Q .normal a m else Q (.exit id') a m
  | e, a, m => Q e a m
theorem AW_block {id : Nat} {c : Code} (h : AW P c (inBlockA id Q) a m) : AW P (.block id c) Q a m := by
  intro ι₀ m₀ w₀ ι act w hs ha hr
  refine wp_block (wp_mono (h ι₀ m₀ w₀ ι act w hs ha hr) ?_)
  rintro e act' w' ⟨κ, a', m', h1, h2, h3, h4⟩
  cases e with
  | exit id' =>
    simp only [inBlockA] at h1
    simp only [Exit.inBlock]
    split
    · rename_i e; rw [if_pos e] at h1; exact ⟨κ, a', m', h1, h2, h3, h4⟩
    · rename_i e; rw [if_neg e] at h1; exact ⟨κ, a', m', h1, h2, h3, h4⟩
  | _ => exact ⟨κ, a', m', h1, h2, h3, h4⟩
def aOps (P : Program) (all : List Oper) (Q : List Value → Mem → Prop) : List Oper → List Value → Mem → Prop
  | [], a, m => Q a m
  | o :: r, a, m => if Region.wanted o (aYielded all a) = true then
      (∃ v m', evOp P o.op a m = some (v, m') ∧ aOps P all Q r (aPut a o.dst v) m') ∨
      (∃ k xs R, evCallee a o.op = some (k, xs) ∧ entered P k = true ∧ Spec P k xs m R ∧ ∀ v m', R v m' → aOps P all Q r (aPut a o.dst v) m') ∨
      (∃ R, evAny o.op a m = some R ∧ ∀ v m', R v m' → aOps P all Q r (aPut a o.dst v) m')
    else aOps P all Q r (aPut a o.dst undef) m
theorem undef_rel {n : Nat → Prop} {ι : Nat → Loc} : VRel n ι undef undef := .tuple _ _ rfl fun i x y hx => by simp at hx
theorem aOps_run {ops : Array Oper} {Qn : List Value → Mem → Prop} (hQ : ∀ a m, Qn a m → Q .normal a m) : ∀ (l : List Oper) (a : List Value) (m : Mem), aOps P ops.toList Qn l a m →
    ∀ (ι₀ : Nat → Loc) (m₀ : Mem) (w₀ : World) (ι : Nat → Loc) (act : Act) (w : World), Step ι₀ m₀ w₀ ι m w → ARel m.Has ι a act → Rel ι m w → wpList P ops (Post ι₀ m₀ w₀ Q) l act w
  | [], a, m, h, _, _, _, ι, _, _, hs, ha, hr => ⟨ι, a, m, hQ a m h, ha, hr, hs⟩
  | o :: r, a, m, h, ι₀, m₀, w₀, ι, act, w, hs, ha, hr => by
    have hy : yielded ops act.tmps = aYielded ops.toList a := funext fun j => yielded_rel ha ops j
    simp only [aOps] at h
    simp only [wpList, hy]
    split at h
    · rename_i hw
      rw [if_pos hw]
      left
      unfold Oper.wp
      replace h : (∃ v m', OSim P ι m w o act v m' ∧ aOps P ops.toList Qn r (aPut a o.dst v) m') ∨ (∃ k xs R, evCallee a o.op = some (k, xs) ∧ entered P k = true ∧ Spec P k xs m R ∧ ∀ v m', R v m' → aOps P ops.toList Qn r (aPut a o.dst v) m') := by
        rcases h with ⟨v, m', h1, h2⟩ | h | ⟨R, h1, h2⟩
        · exact .inl ⟨v, m', evOp_run hr ha h1, h2⟩
        · exact .inr h
        · obtain ⟨v, m', h3, h4⟩ := evAny_run hr ha h1
          exact .inl ⟨v, m', h4, h2 v m' h3⟩
      rcases h with ⟨v, m', h1, h2⟩ | ⟨k, xs, R, h1, he, hsp, h2⟩
      · obtain ⟨v', w', κ, hran, hv, hr', hs'⟩ := h1
        have ha' : ARel m'.Has κ (aPut a o.dst v) (act.put o.dst v') := (ha.mono hs'.grows hs'.at_).put' o.dst hv
        have := aOps_run hQ r _ _ h2 ι₀ m₀ w₀ κ _ w' (hs.trans hs') ha' hr'
        rcases hran with hran | ⟨hran, rfl⟩
        · rw [hran, Oper.upon_value]; exact this
        · rw [hran, Oper.upon_skip]; exact this
      · obtain ⟨ys, hys, hrun⟩ := evCallee_run ha h1 he
        rw [hrun w, Oper.upon_enter]
        refine (hsp ι w ys hys hr).mono ?_
        rintro e w' ⟨v, v', κ, m', hR, rfl, hv, hr', hs'⟩
        have ha' : ARel m'.Has κ (aPut a o.dst v) (act.put o.dst v') := (ha.mono hs'.grows hs'.at_).put' o.dst hv
        exact aOps_run hQ r _ _ (h2 v m' hR) ι₀ m₀ w₀ κ _ w' (hs.trans hs') ha' hr'
    · rename_i hw
      rw [if_neg hw]
      exact aOps_run hQ r _ _ h ι₀ m₀ w₀ ι _ w hs (ha.put' o.dst undef_rel) hr
theorem AW_region {id : Nat} {ops : Array Oper} (h : aOps P ops.toList (Q .normal) ops.toList a m) : AW P (.region id ops false) Q a m :=
  fun ι₀ m₀ w₀ ι act w hs ha hr => wp_region_list (aOps_run (fun _ _ h => h) ops.toList a m h ι₀ m₀ w₀ ι act w hs ha hr)
def aResult (P : Program) (a : List Value) (m : Mem) : ResultVar → Option Value
  | .tmp t => a[t]?
  | .cell p t => match a[p]? with | some q => aLoad P m t q | none => none
def aResults (P : Program) (a : List Value) (m : Mem) : List ResultVar → Option (List Value)
  | [] => some []
  | r :: rs => match aResult P a m r with
    | some v => match aResults P a m rs with
      | some l => some (v :: l)
      | none => none
    | none => none
def aAnswer (P : Program) (rs : List ResultVar) (a : List Value) (m : Mem) : Option Value :=
  match aResults P a m rs with
  | some [v] => some v
  | some l => some (.tuple l.toArray)
  | none => none
def resSem (tmps : Array Value) : ResultVar → Sem Value
  | .tmp t => pure (tmps.getD t undef)
  | .cell q t => do loadVar t (← asAddr (tmps.getD q undef))
theorem results_eq (fn : Func) (tmps : Array Value) : results fn tmps = (do let vs ← fn.results.mapM (resSem tmps); pure (if h : vs.size = 1 then vs[0] else .tuple vs)) := rfl
theorem aResults_run {ι : Nat → Loc} {w : World} {act : Act} (ha : ARel m.Has ι a act) (hr : Rel ι m w) : ∀ (rs : List ResultVar) (l : List Value), aResults P a m rs = some l →
    ∃ us : List Value, (rs.mapM (resSem act.tmps)).run P w = .ok us w ∧ VRels m.Has ι l us
  | [], l, h => by
    cases h
    exact ⟨[], by simp, .nil⟩
  | r :: rs, l, h => by
    simp only [aResults] at h
    split at h <;> first | (cases h; done) | skip
    rename_i v hv
    split at h <;> first | (cases h; done) | skip
    rename_i l' hl
    cases h
    obtain ⟨us, h1, h2⟩ := aResults_run ha hr rs l' hl
    cases r with
    | tmp t =>
      obtain ⟨y, hy, hrel⟩ := ha.tmps.get hv
      have hy' : act.tmps[t]? = some y := by simpa using hy
      exact ⟨y :: us, by simp [List.mapM_cons, h1, resSem, hy'], .cons hrel h2⟩
    | cell p t =>
      simp only [aResult] at hv
      split at hv <;> first | (cases hv; done) | skip
      rename_i q hq
      obtain ⟨y, hy, hrel⟩ := ha.tmps.get hq
      have hy' : act.tmps[p]? = some y := by simpa using hy
      obtain ⟨v', hld, hvr⟩ := aLoad_run hr hv hrel
      unfold aLoad at hv
      split at hv <;> first | (cases hv; done) | skip
      rename_i b o
      cases hrel
      have hld' : (loadVar t ⟨(ι b).blk, (ι b).base + o, none⟩).run P w = .ok v' w := by simpa [Instr.loadAt, Instr.sureAddr] using hld
      exact ⟨v' :: us, by simp [List.mapM_cons, h1, resSem, hy', asAddr, hld'], .cons hvr h2⟩
def aFrame (fn : Func) (xs : List Value) : List Value := xs ++ List.replicate (fn.ntmps - xs.length) undef
end
end
section
variable {P : Program} {m : Mem} {a : List Value}
theorem aAnswer_run [Defs] {ι : Nat → Loc} {w : World} {act : Act} {fn : Func} {v : Value} (ha : ARel m.Has ι a act) (hr : Rel ι m w) (hv : aAnswer P fn.results.toList a m = some v) : ∃ v', (results fn act.tmps).run P w = .ok v' w ∧ VRel m.Has ι v v' := by
  unfold aAnswer at hv
  have arr : ∀ (us : List Value), (fn.results.toList.mapM (resSem act.tmps)).run P w = .ok us w → (results fn act.tmps).run P w = .ok (if hh : us.toArray.size = 1 then us.toArray[0] else .tuple us.toArray) w := by
    intro us hus
    rw [results_eq, Sem.run_bind, Array.mapM_eq_mapM_toList, Sem.run_map, hus]
    rfl
  split at hv <;> first | (cases hv; done) | skip
  · rename_i v0 hl
    cases hv
    obtain ⟨us, h1, h2⟩ := aResults_run ha hr _ _ hl
    obtain ⟨u, rfl, hu⟩ := h2.one'
    exact ⟨u, by rw [arr _ h1]; simp, hu⟩
  · rename_i l hne hl
    cases hv
    obtain ⟨us, h1, h2⟩ := aResults_run ha hr _ _ hl
    refine ⟨.tuple us.toArray, ?_, .tuples (by simpa using h2)⟩
    rw [arr _ h1, dif_neg]
    intro hh
    have hlen : l.length = 1 := by rw [h2.1]; simpa using hh
    match l, hlen with
    | [x], _ => exact hne x rfl
theorem Spec.of {f : FuncId} {fn : Func} {c : Code} {xs : List Value} {R : Value → Mem → Prop} (hf : P.funcs[f]? = some fn) (hb : fn.body = some c)
    (h : AW P c (fun e a' m' => (e = .ret ∨ e = .normal) ∧ ∃ v, aAnswer P fn.results.toList a' m' = some v ∧ R v m') (aFrame fn xs) m) : Spec P f xs m R := by
  intro ι w ys hys hr
  refine calls_of_wp hf hb (wp_mono (h ι m w ι _ w (Step.refl _ _ _) ⟨rfl, ?_⟩ hr) ?_)
  · simp only [Array.toList_append, Array.toList_replicate, List.size_toArray]
    rw [← hys.1]
    unfold aFrame
    refine VRels.append hys ⟨rfl, fun i x y hx hy => ?_⟩
    rw [hx] at hy
    cases hy
    have := List.mem_of_getElem? hx
    rw [List.mem_replicate] at this
    rw [this.2]
    exact undef_rel
  · rintro e act' w' ⟨κ, a', m', ⟨he, v, hv, hR⟩, ha, hr', hs⟩
    obtain ⟨v', h1, h2⟩ := aAnswer_run ha hr' hv
    rcases he with rfl | rfl
    · exact ⟨ha.defers, v', h1, v, v', κ, m', hR, rfl, h2, hr', hs⟩
    · exact ⟨ha.defers, v', h1, v, v', κ, m', hR, rfl, h2, hr', hs⟩
end
end Go.Proofs.YtfdijpacbhomjaaGreatDoor.Abs
namespace Go.Proofs.YtfdijpacbhomjaaGreatDoor.Abs
open Go
def befOne (acc : List Nat) (o : Oper) : Nat := o.after.toList.foldl (fun s e => if Region.binds .any e then s ||| (2 ^ e.on ||| (acc[e.on]?).getD 0) else s) 0
def befFrom : List Nat → List Oper → List Nat
  | acc, [] => acc
  | acc, o :: r => befFrom (acc ++ [befOne acc o]) r
def befM (ops : List Oper) : List Nat := befFrom [] ops
theorem foldl_bits (f : Edge → Nat) (c : Edge → Bool) : ∀ (l : List Edge) (s j : Nat), (l.foldl (fun s e => if c e then s ||| f e else s) s).testBit j = true → s.testBit j = true ∨ ∃ e ∈ l, c e = true ∧ (f e).testBit j = true
  | [], s, j, h => .inl h
  | e :: l, s, j, h => by
    rw [List.foldl_cons] at h
    rcases foldl_bits f c l _ j h with h1 | ⟨e', h1, h2⟩
    · split at h1
      · rename_i hc
        rw [Nat.testBit_or, Bool.or_eq_true] at h1
        rcases h1 with h1 | h1
        · exact .inl h1
        · exact .inr ⟨e, List.mem_cons_self, hc, h1⟩
      · exact .inl h1
    · exact .inr ⟨e', List.mem_cons_of_mem _ h1, h2⟩
theorem befFrom_spec : ∀ (l : List Oper) (acc : List Nat), ∃ r, befFrom acc l = acc ++ r ∧ r.length = l.length ∧ ∀ i o, l[i]? = some o → r[i]? = some (befOne (acc ++ r.take i) o)
  | [], acc => ⟨[], by simp [befFrom], rfl, fun i o h => by simp at h⟩
  | o :: l, acc => by
    obtain ⟨r, h1, h2, h3⟩ := befFrom_spec l (acc ++ [befOne acc o])
    refine ⟨befOne acc o :: r, by rw [befFrom, h1]; simp, by simp [h2], fun i o' h => ?_⟩
    cases i with
    | zero => simp at h; subst h; simp
    | succ i =>
      have := h3 i o' (by simpa using h)
      simp only [List.getElem?_cons_succ, List.take_succ_cons]
      rw [this]
      simp
theorem befM_spec {l : List Oper} {k j : Nat} {o : Oper} (hk : l[k]? = some o) (hj : ((befM l)[k]?.getD 0).testBit j = true) :
    ∃ e ∈ o.after.toList, Region.binds .any e = true ∧ (e.on = j ∨ (e.on < k ∧ ((befM l)[e.on]?.getD 0).testBit j = true)) := by
  obtain ⟨r, h1, h2, h3⟩ := befFrom_spec l []
  have hb : befM l = r := by unfold befM; rw [h1]; simp
  rw [hb] at hj ⊢
  rw [h3 k o hk] at hj
  simp only [Option.getD_some, befOne, List.nil_append] at hj
  rcases foldl_bits _ _ _ _ _ hj with h | ⟨e, he, hc, h⟩
  · simp at h
  · refine ⟨e, he, hc, ?_⟩
    rw [Nat.testBit_or, Bool.or_eq_true] at h
    rcases h with h | h
    · rw [Nat.testBit_two_pow] at h
      exact .inl (by simpa using h)
    · rw [List.getElem?_take] at h
      split at h
      · rename_i hlt; exact .inr ⟨hlt, h⟩
      · simp at h
def Down (ops : Array Oper) (S : Nat → Bool) : Prop := ∀ k o, ops[k]? = some o → S k = true → ∀ e ∈ o.after, Region.binds .any e = true → S e.on = true
theorem Down.bef {ops : Array Oper} {S : Nat → Bool} (hd : Down ops S) : ∀ (k : Nat) (o : Oper), ops[k]? = some o → (∀ e ∈ o.after, Region.binds .any e = true → S e.on = true) → ∀ j, ((befM ops.toList)[k]?.getD 0).testBit j = true → S j = true := by
  intro k
  induction k using Nat.strongRecOn with
  | _ k ih =>
    intro o hk hall j hj
    obtain ⟨e, he, hb, h⟩ := befM_spec (by simpa using hk) hj
    have he' : e ∈ o.after := by simpa using he
    rcases h with rfl | ⟨hlt, h⟩
    · exact hall e he' hb
    · have hS := hall e he' hb
      have hsz : k < ops.size := (Array.getElem?_eq_some_iff.1 hk).1
      have hko : ops[e.on]? = some ops[e.on] := Array.getElem?_eq_getElem (by omega)
      exact ih e.on hlt _ hko (hd e.on _ hko hS) j h
def edgesBack (ops : List Oper) : Bool := ops.zipIdx.all fun p => p.1.after.toList.all fun e => !Region.binds .any e || decide (e.on < p.2)
def apartAll (ops : Array Oper) (bs : List Nat) : Nat → Bool
  | 0 => true
  | k + 1 => apartAll ops bs k && (List.range k).all fun j => ((bs[k]?).getD 0).testBit j || (match ops[j]?, ops[k]? with
      | some x, some y => x.apart ops y
      | _, _ => true)
def waitAll (bs : List Nat) (q n : Nat) : Bool := (List.range n).all fun k => decide (k < q) || (List.range k).all fun j => ((bs[k]?).getD 0).testBit j
def drawOK (ops : Array Oper) (q : Nat) : Bool :=
  Region.noSelect ops && edgesBack ops.toList && apartAll ops (befM ops.toList) q && waitAll (befM ops.toList) q ops.size
def headOK (ops : Array Oper) (q : Nat) : Bool := Region.noSelect ops && edgesBack ops.toList && apartAll ops (befM ops.toList) q
theorem drawOK_head {ops : Array Oper} {q : Nat} (h : drawOK ops q = true) : headOK ops q = true := by
  simp only [drawOK, Bool.and_eq_true] at h
  simp only [headOK, Bool.and_eq_true]
  exact h.1
theorem headOK_less {ops : Array Oper} {q : Nat} (h : headOK ops (q + 1) = true) : headOK ops q = true := by
  simp only [headOK, Bool.and_eq_true, apartAll] at h
  simp only [headOK, Bool.and_eq_true]
  exact ⟨h.1, h.2.1⟩
theorem edgesBack_spec {ops : Array Oper} (h : edgesBack ops.toList = true) {k : Nat} {o : Oper} (hk : ops[k]? = some o) {e : Edge} (he : e ∈ o.after) (hb : Region.binds .any e = true) : e.on < k := by
  simp only [edgesBack, List.all_eq_true] at h
  have hm : (o, k) ∈ ops.toList.zipIdx := by
    rw [List.mem_zipIdx_iff_getElem?]
    simpa using hk
  have := h _ hm e (by simpa using he)
  simp [hb] at this
  exact this
theorem apartAll_spec {ops : Array Oper} {bs : List Nat} : ∀ {q : Nat}, apartAll ops bs q = true → ∀ {j k : Nat} {x y : Oper}, j < k → k < q → ops[j]? = some x → ops[k]? = some y → ((bs[k]?).getD 0).testBit j = false → x.apart ops y = true
  | 0, _, j, k, x, y, _, hk, _, _, _ => by omega
  | q + 1, h, j, k, x, y, hjk, hk, hx, hy, hn => by
    simp only [apartAll, Bool.and_eq_true] at h
    by_cases e : k = q
    · subst e
      have := List.all_eq_true.1 h.2 j (List.mem_range.2 hjk)
      simp only [hn, Bool.false_or, hx, hy] at this
      exact this
    · exact apartAll_spec h.1 hjk (by omega) hx hy hn
theorem waitAll_spec {bs : List Nat} {q n : Nat} (h : waitAll bs q n = true) {j k : Nat} (hk : k < n) (hq : q ≤ k) (hj : j < k) : ((bs[k]?).getD 0).testBit j = true := by
  have := List.all_eq_true.1 h k (List.mem_range.2 hk)
  simp only [Bool.or_eq_true, decide_eq_true_eq] at this
  rcases this with h1 | h1
  · omega
  · exact List.all_eq_true.1 h1 j (List.mem_range.2 hj)
theorem evParts_congr {a b : List Value} : ∀ (ps : List (Nat × Operand)), (∀ p ∈ ps, aEval a p.2 = aEval b p.2) → evParts a ps = evParts b ps
  | [], _ => rfl
  | (i, x) :: r, h => by
    simp only [evParts, h (i, x) List.mem_cons_self, evParts_congr r fun p hp => h p (List.mem_cons_of_mem _ hp)]
theorem evArgs_congr {a b : List Value} : ∀ (xs : List Operand), (∀ x ∈ xs, aEval a x = aEval b x) → evArgs a xs = evArgs b xs
  | [], _ => rfl
  | x :: r, h => by
    simp only [evArgs, h x List.mem_cons_self, evArgs_congr r fun p hp => h p (List.mem_cons_of_mem _ hp)]
theorem evOpt_congr {a b : List Value} (x : Option Operand) (h : ∀ y, x = some y → aEval a y = aEval b y) : evOpt a x = evOpt b x := by
  cases x with
  | none => rfl
  | some x => simp only [evOpt, h x rfl]
theorem evOp_congr (P : Program) (o : Op) {a b : List Value} (m : Mem) (h : ∀ x ∈ o.operands, aEval a x = aEval b x) : evOp P o a m = evOp P o b m := by
  cases o <;> simp only [Op.operands] at h <;> simp only [evOp]
  case build t ps => rw [evParts_congr ps.toList fun p hp => h p.2 (by simp; exact ⟨p.1, by simpa using hp⟩)]
  case buildSlice t n ps => rw [evParts_congr ps.toList fun p hp => h p.2 (by simp; exact ⟨p.1, by simpa using hp⟩)]
  case makeFunc fn fs cs =>
    cases fn <;> simp only [evOp]
    rw [evArgs_congr fs.toList fun x hx => h x (by simp at hx; simp [hx]), evArgs_congr cs.toList fun x hx => h x (by simp at hx; simp [hx])]
  case slice t x lo hi mx =>
    cases mx <;> simp only [evOp]
    rw [h x (by simp), evOpt_congr lo fun y hy => h y (by simp [hy]), evOpt_congr hi fun y hy => h y (by simp [hy])]
  case call c =>
    obtain ⟨callee, args, ts⟩ := c
    cases callee <;> simp only [evOp]
    rw [evArgs_congr args.toList fun x hx => h x (by simp at hx; simp [Call.operands, hx])]
  case makeMap t r => cases r <;> rfl
  case mapUpdate t x k y => rw [h x (by simp), h k (by simp), h y (by simp)]
  case entry x => rw [h x (by simp)]
  case lookup t x k ok => rw [h x (by simp), h k (by simp)]
  case pick c x y => rw [h c (by simp), h x (by simp), h y (by simp)]
  all_goals (first | rfl | (simp at h; simp [h]; done) | (simp_all; done))
theorem evCallee_congr (o : Op) {a b : List Value} (h : ∀ x ∈ o.operands, aEval a x = aEval b x) : evCallee a o = evCallee b o := by
  cases o <;> simp only [evCallee]
  case call c =>
    obtain ⟨callee, args, ts⟩ := c
    cases callee <;> simp only
    simp only [Op.operands] at h
    rw [h _ (by simp [Call.operands]), evArgs_congr args.toList fun x hx => h x (by simp at hx; simp [Call.operands, hx])]
def noCall : Op → Bool
  | .call c => match c.callee with
    | .value _ => false
    | _ => true
  | .next _ _ => false
  | _ => true
theorem noAny_ev {o : Op} (h : noCall o = true) (a : List Value) (m : Mem) : evAny o a m = none := by
  cases o <;> first | rfl | (cases h; done)
theorem noCall_ev {o : Op} (h : noCall o = true) (a : List Value) : evCallee a o = none := by
  cases o <;> try rfl
  rename_i c
  obtain ⟨callee, args, ts⟩ := c
  cases callee <;> first | rfl | (cases h; done)
end Go.Proofs.YtfdijpacbhomjaaGreatDoor.Abs
namespace Go.Proofs.YtfdijpacbhomjaaGreatDoor.Abs
open Go
section
variable [Defs]
def Cl (p : Nat → Prop) (v : Value) : Prop := ∃ κ v', VRel p κ v v'
theorem Cl.rel {p : Nat → Prop} {v : Value} (h : Cl p v) {q : Nat → Prop} {ι : Nat → Loc} {u : Value} (hr : VRel q ι v u) : VRel p ι v u := by
  obtain ⟨κ, v', h⟩ := h
  induction h generalizing u with
  | ptr b o h => cases hr; exact .ptr b o h
  | slice b o len cap cap' h hl hc => cases hr with
    | slice _ _ _ _ c2 h2 hl2 hc2 => exact .slice b o len cap c2 h hl2 hc2
    | empty _ _ o' h2 => exact .empty b o o' h
  | map b h => cases hr; exact .map b h
  | empty b o o' h => cases hr with
    | slice _ _ _ _ c2 h2 hl2 hc2 => exact .slice b o 0 0 c2 h hl2 hc2
    | empty _ _ o'' h2 => exact .empty b o o'' h
  | agg xs ys hs _ ih =>
    obtain ⟨us, rfl, hu⟩ := hr.agg_inv
    refine .agg xs us (by simpa using hu.1) fun i x y hx hy => ?_
    have hi : i < ys.size := by rw [← hs]; exact (Array.getElem?_eq_some_iff.1 hx).1
    exact ih i x _ hx (Array.getElem?_eq_getElem hi) (hu.2 i x y (by simpa using hx) (by simpa using hy))
  | tuple xs ys hs _ ih =>
    obtain ⟨us, rfl, hu⟩ := hr.tuple_inv
    refine .tuple xs us (by simpa using hu.1) fun i x y hx hy => ?_
    have hi : i < ys.size := by rw [← hs]; exact (Array.getElem?_eq_some_iff.1 hx).1
    exact ih i x _ hx (Array.getElem?_eq_getElem hi) (hu.2 i x y (by simpa using hx) (by simpa using hy))
  | iface t x y _ ih => cases hr with | iface _ _ z hz => exact .iface t x z (ih hz)
  | func f xs ys zs ws hs _ hs2 _ ih ih2 => cases hr with
    | func _ _ ys' _ ws' hs' hh' hs2' hh2' =>
      refine .func f xs ys' zs ws' hs' (fun i x y hx hy => ?_) hs2' (fun i x y hx hy => ?_)
      · have hi : i < ys.size := by rw [← hs]; exact (Array.getElem?_eq_some_iff.1 hx).1
        exact ih i x _ hx (Array.getElem?_eq_getElem hi) (hh' i x y hx hy)
      · have hi : i < ws.size := by rw [← hs2]; exact (Array.getElem?_eq_some_iff.1 hx).1
        exact ih2 i x _ hx (Array.getElem?_eq_getElem hi) (hh2' i x y hx hy)
  | junk y h => cases hr with | junk _ h => exact .junk _ h
  | bool | int | float | complex | string | nilPtr | nilSlice | nilFunc | nilIface | nilMap => cases hr <;> constructor
theorem VRel.cl {p : Nat → Prop} {ι : Nat → Loc} {v u : Value} (h : VRel p ι v u) : Cl p v := ⟨ι, u, h⟩
theorem Cl.mono {p q : Nat → Prop} {v : Value} (h : Cl p v) (hq : ∀ b, p b → q b) : Cl q v := by
  obtain ⟨κ, v', h⟩ := h
  exact ⟨κ, v', h.mono hq fun _ _ => rfl⟩
def ClBlk (p : Nat → Prop) : Blk → Prop
  | .cells _ _ cs => ∀ c ∈ cs, Cl p c
  | .kv .. => True
  | .it _ b _ _ _ => p b
  | .raw .. => True
theorem ClBlk.mono {p q : Nat → Prop} {x : Blk} (h : ClBlk p x) (hq : ∀ b, p b → q b) : ClBlk q x := by
  cases x with
  | cells ro s cs => exact fun c hc => (h c hc).mono hq
  | kv => trivial
  | raw => trivial
  | it ro b => exact hq b h
theorem Rel.clBlk {ι : Nat → Loc} {m : Mem} {w : World} (h : Rel ι m w) : ∀ b x, m.get b = some x → ClBlk m.Has x := fun b x hb => by
  cases x with
  | cells ro s cs =>
    intro c hc
    obtain ⟨C, e, fz, k1, k2, k3, k4, k5, k6⟩ := h.at' b ro s cs hb
    obtain ⟨p, hp, hcp⟩ := List.getElem_of_mem hc
    obtain ⟨_, v', _, hrel⟩ := k5 p c (by rw [List.getElem?_eq_getElem hp, hcp])
    exact hrel.cl
  | kv => trivial
  | raw => trivial
  | it ro b' s seen l => exact (h.oth b _ hb).2.2
def OpSim (P : Program) (o : Oper) (a : List Value) (m : Mem) (R : Value → Mem → Prop) : Prop :=
  ∀ (b : List Value) (ι : Nat → Loc) (act act2 : Act) (w : World) (K : Act → World → Prop) (Q : Exit → Act → World → Prop), (∀ x ∈ o.op.operands, aEval a x = aEval b x) → ARel m.Has ι b act → Rel ι m w → execOp act2.eval o = execOp act.eval o →
    (∀ v m' v' w' κ, R v m' → VRel m'.Has κ v v' → Rel κ m' w' → Step ι m w κ m' w' → K (act2.put o.dst v') w') → o.wp P act2 w K Q
def OpOK (P : Program) (o : Oper) (a : List Value) (m : Mem) (v : Value) (m' : Mem) : Prop := OpSim P o a m fun u m'' => u = v ∧ m'' = m'
theorem OpSim.op {P : Program} {o : Oper} {a : List Value} {m m' : Mem} {v : Value} {R : Value → Mem → Prop} (h : evOp P o.op a m = some (v, m')) (hR : R v m') : OpSim P o a m R := by
  intro b ι act act2 w K Q hab ha hr he hK
  rw [evOp_congr P o.op m hab] at h
  unfold Oper.wp
  rw [he]
  obtain ⟨v', w', κ, hran, hv, hr', hs'⟩ := evOp_run hr ha h
  rcases hran with hran | ⟨hran, rfl⟩
  · rw [hran, Oper.upon_value]; exact hK _ _ _ _ κ hR hv hr' hs'
  · rw [hran, Oper.upon_skip]; exact hK _ _ _ _ κ hR hv hr' hs'
theorem OpSim.call {P : Program} {o : Oper} {a : List Value} {m : Mem} {R : Value → Mem → Prop} {k : FuncId} {xs : List Value} (h1 : evCallee a o.op = some (k, xs)) (he : entered P k = true) (hsp : Spec P k xs m R) : OpSim P o a m R := by
  intro b ι act act2 w K Q hab ha hr heq hK
  rw [evCallee_congr o.op hab] at h1
  unfold Oper.wp
  rw [heq]
  obtain ⟨ys, hys, hrun⟩ := evCallee_run ha h1 he
  rw [hrun w, Oper.upon_enter]
  refine (hsp ι w ys hys hr).mono ?_
  rintro e w' ⟨v1, v', κ, m1, hR, rfl, hv, hr', hs'⟩
  exact hK _ _ _ _ κ hR hv hr' hs'
def frameAt (ops : Array Oper) (v : Nat → Value) (S : Nat → Bool) (a : List Value) : Nat → List Value
  | 0 => a
  | k + 1 => if S k then aPut (frameAt ops v S a k) ((ops[k]?).bind (·.dst)) (v k) else frameAt ops v S a k
theorem aPut_get (a : List Value) (d : Option Nat) (v : Value) (t : Nat) (h : d ≠ some t) : (aPut a d v)[t]? = a[t]? := by
  cases d with
  | none => rfl
  | some u =>
    simp only [aPut]
    rw [List.getElem?_set_ne]
    intro e; exact h (by rw [e])
theorem aPut_length (a : List Value) (d : Option Nat) (v : Value) : (aPut a d v).length = a.length := by cases d <;> simp [aPut]
theorem aPut_comm (a : List Value) (d e : Option Nat) (v u : Value) (h : ∀ t, d = some t → e ≠ some t) : aPut (aPut a d v) e u = aPut (aPut a e u) d v := by
  cases d with
  | none => rfl
  | some t => cases e with
    | none => rfl
    | some s =>
      simp only [aPut]
      rw [List.set_comm]
      intro he; exact h t rfl (by rw [he])
theorem frameAt_add {ops : Array Oper} {v : Nat → Value} {S : Nat → Bool} {a : List Value} {i : Nat} (hS : S i = false) : ∀ n, i < n →
    (∀ k, i < k → k < n → S k = true → ∀ t, (ops[i]?).bind (·.dst) = some t → (ops[k]?).bind (·.dst) ≠ some t) →
    frameAt ops v (fun k => S k || k == i) a n = aPut (frameAt ops v S a n) ((ops[i]?).bind (·.dst)) (v i) := by
  have low : ∀ n, n ≤ i → frameAt ops v (fun k => S k || k == i) a n = frameAt ops v S a n := by
    intro n
    induction n with
    | zero => intro _; rfl
    | succ n ih =>
      intro h
      have hne : (n == i) = false := by simp; omega
      simp only [frameAt, hne, Bool.or_false, ih (by omega)]
  intro n
  induction n with
  | zero => intro h; omega
  | succ n ih =>
    intro h hd
    by_cases e : n = i
    · subst e
      simp only [frameAt, hS, beq_self_eq_true, Bool.or_true, if_true, Bool.false_eq_true, if_false]
      rw [low n (Nat.le_refl _)]
    · have hne : (n == i) = false := by simp; omega
      simp only [frameAt, hne, Bool.or_false]
      rw [ih (by omega) fun k h1 h2 => hd k h1 (by omega)]
      split
      · rename_i hSn
        exact aPut_comm _ _ _ _ _ (hd n (by omega) (by omega) hSn)
      · rfl
theorem frameAt_get {ops : Array Oper} {v : Nat → Value} {S T : Nat → Bool} {a : List Value} (t : Nat) : ∀ n, (∀ k, k < n → (ops[k]?).bind (·.dst) = some t → S k = T k) → (frameAt ops v S a n)[t]? = (frameAt ops v T a n)[t]?
  | 0, _ => rfl
  | n + 1, h => by
    have ih := frameAt_get (v := v) (a := a) t n fun k hk => h k (by omega)
    by_cases hd : (ops[n]?).bind (·.dst) = some t
    · have := h n (by omega) hd
      simp only [frameAt, this]
      split
      · rw [hd]
        simp only [aPut]
        rw [List.getElem?_set, List.getElem?_set]
        have hl : ∀ (U : Nat → Bool) (k : Nat), (frameAt ops v U a k).length = a.length := by
          intro U k
          induction k with
          | zero => rfl
          | succ k ih => simp only [frameAt]; split <;> simp [aPut_length, ih]
        simp only [if_true, hl]
      · exact ih
    · simp only [frameAt]
      split <;> split <;> simp only [aPut_get _ _ _ _ hd, ih]
theorem frameAt_tail {ops : Array Oper} {v : Nat → Value} {S : Nat → Bool} {a : List Value} {i : Nat} : ∀ n, i ≤ n → (∀ k, i ≤ k → k < n → S k = false) → frameAt ops v S a n = frameAt ops v S a i
  | 0, h, _ => by
    have : i = 0 := by omega
    rw [this]
  | n + 1, h, hk => by
    by_cases e : i = n + 1
    · rw [e]
    · simp only [frameAt, hk n (by omega) (by omega)]
      exact frameAt_tail n (by omega) fun k h1 h2 => hk k h1 (by omega)
def newsAt (N : Nat → List (Option Blk)) (S : Nat → Bool) : Nat → List (Option (Option Blk))
  | 0 => []
  | k + 1 => newsAt N S k ++ (N k).map fun x => if S k then some x else none
def memAt (m : Mem) (N : Nat → List (Option Blk)) (S : Nat → Bool) (n : Nat) : Mem := ⟨m.blks ++ newsAt N S n⟩
def Mem.app (m : Mem) (l : List (Option Blk)) : Mem := ⟨m.blks ++ l.map some⟩
theorem newsAt_length (N : Nat → List (Option Blk)) (S T : Nat → Bool) : ∀ n, (newsAt N S n).length = (newsAt N T n).length
  | 0 => rfl
  | n + 1 => by simp [newsAt, newsAt_length N S T n]
end
end Go.Proofs.YtfdijpacbhomjaaGreatDoor.Abs
namespace Go.Proofs.YtfdijpacbhomjaaGreatDoor.Abs
open Go
theorem foldl_bits_back (f : Edge → Nat) (c : Edge → Bool) : ∀ (l : List Edge) (s j : Nat), (s.testBit j = true ∨ ∃ e ∈ l, c e = true ∧ (f e).testBit j = true) → (l.foldl (fun s e => if c e then s ||| f e else s) s).testBit j = true
  | [], s, j, h => by
    rcases h with h | ⟨e, he, _⟩
    · exact h
    · cases he
  | e :: l, s, j, h => by
    rw [List.foldl_cons]
    refine foldl_bits_back f c l _ j ?_
    rcases h with h | ⟨e', he, hc, hb⟩
    · left
      split
      · rw [Nat.testBit_or, h]; rfl
      · exact h
    · rcases List.mem_cons.1 he with rfl | he
      · left
        rw [if_pos hc, Nat.testBit_or, hb, Bool.or_true]
      · exact .inr ⟨e', he, hc, hb⟩
theorem befM_back {l : List Oper} {k j : Nat} {o : Oper} (hk : l[k]? = some o) {e : Edge} (he : e ∈ o.after.toList) (hb : Region.binds .any e = true) (hlt : e.on < k) (hj : e.on = j ∨ ((befM l)[e.on]?.getD 0).testBit j = true) :
    ((befM l)[k]?.getD 0).testBit j = true := by
  obtain ⟨r, h1, h2, h3⟩ := befFrom_spec l []
  have hbr : befM l = r := by unfold befM; rw [h1]; simp
  rw [hbr] at hj ⊢
  rw [h3 k o hk]
  simp only [Option.getD_some, befOne, List.nil_append]
  refine foldl_bits_back _ _ _ _ _ (.inr ⟨e, he, hb, ?_⟩)
  rw [Nat.testBit_or, Bool.or_eq_true]
  rcases hj with rfl | hj
  · left; rw [Nat.testBit_two_pow]; simp
  · right
    rw [List.getElem?_take, if_pos hlt]
    exact hj
section
variable {ops : Array Oper}
def B (ops : Array Oper) (i j : Nat) : Bool := ((befM ops.toList)[i]?.getD 0).testBit j
theorem B_lt (he : edgesBack ops.toList = true) : ∀ {i j : Nat}, i < ops.size → B ops i j = true → j < i := by
  intro i
  induction i using Nat.strongRecOn with
  | _ i ih =>
    intro j hi h
    have ho : ops[i]? = some ops[i] := Array.getElem?_eq_getElem hi
    have ho' : ops.toList[i]? = some ops[i] := by rw [Array.getElem?_toList]; exact ho
    obtain ⟨e, h1, h2, h3⟩ := befM_spec ho' h
    have hlt := edgesBack_spec he ho (by simpa using h1) h2
    rcases h3 with rfl | ⟨h3, h4⟩
    · exact hlt
    · have := ih e.on h3 (by omega) h4
      omega
theorem B_trans (he : edgesBack ops.toList = true) : ∀ {i j k : Nat}, i < ops.size → B ops i j = true → B ops j k = true → B ops i k = true := by
  intro i
  induction i using Nat.strongRecOn with
  | _ i ih =>
    intro j k hi h hk
    have ho : ops[i]? = some ops[i] := Array.getElem?_eq_getElem hi
    have ho' : ops.toList[i]? = some ops[i] := by rw [Array.getElem?_toList]; exact ho
    obtain ⟨e, h1, h2, h3⟩ := befM_spec ho' h
    have hlt := edgesBack_spec he ho (by simpa using h1) h2
    rcases h3 with rfl | ⟨h3, h4⟩
    · exact befM_back ho' h1 h2 hlt (.inr hk)
    · exact befM_back ho' h1 h2 hlt (.inr (ih e.on h3 (by omega) h4 hk))
end
section
variable {m : Mem} {N : Nat → List (Option Blk)}
def off (N : Nat → List (Option Blk)) (k : Nat) : Nat := (newsAt N (fun _ => true) k).length
theorem newsAt_len (S : Nat → Bool) (k : Nat) : (newsAt N S k).length = off N k := newsAt_length N S _ k
theorem off_succ (k : Nat) : off N (k + 1) = off N k + (N k).length := by simp [off, newsAt]
theorem off_mono {j k : Nat} (h : j ≤ k) : off N j ≤ off N k := by
  induction k with
  | zero =>
    have : j = 0 := by omega
    rw [this]; exact Nat.le_refl _
  | succ k ih =>
    by_cases e : j = k + 1
    · rw [e]; exact Nat.le_refl _
    · have := ih (by omega)
      rw [off_succ]
      omega
def IsNew (m : Mem) (N : Nat → List (Option Blk)) (k b : Nat) : Prop := m.size + off N k ≤ b ∧ b < m.size + off N k + (N k).length
theorem IsNew.unique {j k b : Nat} (h : IsNew m N j b) (h' : IsNew m N k b) : j = k := by
  obtain ⟨h1, h2⟩ := h
  obtain ⟨h3, h4⟩ := h'
  rcases Nat.lt_trichotomy j k with hlt | heq | hgt
  · have := off_mono (N := N) (show j + 1 ≤ k by omega)
    rw [off_succ] at this
    omega
  · exact heq
  · have := off_mono (N := N) (show k + 1 ≤ j by omega)
    rw [off_succ] at this
    omega
theorem newsAt_get (S : Nat → Bool) : ∀ (n p : Nat) (o : Option Blk), (newsAt N S n)[p]? = some (some o) ↔ ∃ k, k < n ∧ S k = true ∧ off N k ≤ p ∧ (N k)[p - off N k]? = some o
  | 0, p, o => by
    constructor
    · intro h; simp [newsAt] at h
    · rintro ⟨k, hk, _⟩; omega
  | n + 1, p, o => by
    simp only [newsAt]
    rw [List.getElem?_append, newsAt_len]
    split
    · rename_i hlt
      rw [newsAt_get S n p o]
      constructor
      · rintro ⟨k, h1, h2⟩; exact ⟨k, by omega, h2⟩
      · rintro ⟨k, h1, h2, h3, h4⟩
        refine ⟨k, ?_, h2, h3, h4⟩
        rcases Nat.lt_succ_iff_lt_or_eq.1 h1 with h | h
        · exact h
        · subst h; omega
    · rename_i hge
      rw [List.getElem?_map, Option.map_eq_some_iff]
      constructor
      · rintro ⟨x, h1, h2⟩
        split at h2
        · rename_i hS
          exact ⟨n, by omega, hS, by omega, by rw [h1, Option.some.inj h2]⟩
        · cases h2
      · rintro ⟨k, h1, h2, h3, h4⟩
        have hp := (List.getElem?_eq_some_iff.1 h4).1
        have e : k = n := by
          rcases Nat.lt_succ_iff_lt_or_eq.1 h1 with h | h
          · have := off_mono (N := N) (show k + 1 ≤ n by omega)
            rw [off_succ] at this
            omega
          · exact h
        subst e
        exact ⟨o, h4, by rw [if_pos h2]⟩
theorem memAt_blks (S : Nat → Bool) (n b : Nat) (o : Option Blk) : (memAt m N S n).blks[b]? = some (some o) ↔ (b < m.size ∧ m.blks[b]? = some (some o)) ∨ ∃ k, k < n ∧ S k = true ∧ m.size + off N k ≤ b ∧ (N k)[b - (m.size + off N k)]? = some o := by
  unfold memAt
  simp only
  rw [List.getElem?_append]
  show (if b < m.size then m.blks[b]? else (newsAt N S n)[b - m.size]?) = _ ↔ _
  split
  · rename_i h
    constructor
    · exact fun h' => .inl ⟨h, h'⟩
    · rintro (⟨_, h'⟩ | ⟨k, _, _, h1, _⟩)
      · exact h'
      · omega
  · rename_i h
    rw [newsAt_get]
    constructor
    · rintro ⟨k, h1, h2, h3, h4⟩
      exact .inr ⟨k, h1, h2, by omega, by rw [show b - (m.size + off N k) = b - m.size - off N k by omega]; exact h4⟩
    · rintro (⟨h', _⟩ | ⟨k, h1, h2, h3, h4⟩)
      · exact absurd h' h
      · exact ⟨k, h1, h2, by omega, by rw [show b - m.size - off N k = b - (m.size + off N k) by omega]; exact h4⟩
theorem get_iff (m : Mem) (b : Nat) (x : Blk) : m.get b = some x ↔ m.blks[b]? = some (some (some x)) := by
  constructor
  · exact Mem.get_some
  · intro h; unfold Mem.get; rw [h]
theorem memAt_get (S : Nat → Bool) (n b : Nat) (x : Blk) : (memAt m N S n).get b = some x ↔ (b < m.size ∧ m.get b = some x) ∨ ∃ k, k < n ∧ S k = true ∧ m.size + off N k ≤ b ∧ (N k)[b - (m.size + off N k)]? = some (some x) := by
  rw [get_iff, memAt_blks, get_iff]
theorem memAt_has (S : Nat → Bool) (n b : Nat) : (memAt m N S n).Has b ↔ m.Has b ∨ ∃ k, k < n ∧ S k = true ∧ IsNew m N k b := by
  constructor
  · rintro ⟨o, ho⟩
    rcases (memAt_blks S n b o).1 ho with ⟨_, h⟩ | ⟨k, h1, h2, h3, h4⟩
    · exact .inl ⟨o, h⟩
    · have := (List.getElem?_eq_some_iff.1 h4).1
      exact .inr ⟨k, h1, h2, h3, by omega⟩
  · rintro (h | ⟨k, h1, h2, h3, h4⟩)
    · have hl := Mem.has_lt h
      obtain ⟨o, ho⟩ := h
      exact ⟨o, (memAt_blks S n b o).2 (.inl ⟨hl, ho⟩)⟩
    · have hlt : b - (m.size + off N k) < (N k).length := by omega
      exact ⟨(N k)[b - (m.size + off N k)], (memAt_blks S n b _).2 (.inr ⟨k, h1, h2, h3, List.getElem?_eq_getElem hlt⟩)⟩
theorem new_has {k b : Nat} (hb : IsNew m N k b) : ¬ m.Has b := fun h => by
  have := Mem.has_lt h
  have := hb.1
  omega
theorem newsAt_congr {S T : Nat → Bool} : ∀ n, (∀ k, k < n → S k = T k) → newsAt N S n = newsAt N T n
  | 0, _ => rfl
  | n + 1, h => by simp only [newsAt, newsAt_congr n fun k hk => h k (by omega), h n (by omega)]
theorem memAt_own (S : Nat → Bool) (i : Nat) : (memAt m N S i).app (N i) = memAt m N (fun k => S k || k == i) (i + 1) := by
  unfold memAt Mem.app
  simp only [newsAt, beq_self_eq_true, Bool.or_true, if_true]
  rw [newsAt_congr (S := fun k => S k || k == i) (T := S) i fun k hk => by
    have : (k == i) = false := by simp; omega
    simp [this]]
  rw [List.append_assoc]
end
def maskL (f : Nat → Bool) (l : List Value) : List Value := l.zipIdx.map fun p => if f p.2 then p.1 else undef
theorem maskL_get (f : Nat → Bool) (l : List Value) (t : Nat) : (maskL f l)[t]? = (l[t]?).map fun x => if f t then x else undef := by
  unfold maskL
  rw [List.getElem?_map, List.getElem?_zipIdx]
  cases l[t]? <;> simp
theorem maskL_length (f : Nat → Bool) (l : List Value) : (maskL f l).length = l.length := by simp [maskL]
end Go.Proofs.YtfdijpacbhomjaaGreatDoor.Abs
