/-
  From worlds to the abstract memory: whatever data come in, they stand in a memory of blocks that nobody writes.
  Texts as lists of bytes, and their cells.
  The abstract machine walked with unknowns: loops over some slots, memory that grows, facts of the program's types.
  Data that came in, read off the abstract memory; and slices there as the contracts of worlds want them.
  Walks over any memory with local blocks: what the steps come to.
  Walks in a memory that is written: no base that stays; what is known are blocks by number.
-/
import Derived.Test.YthcleiegefhmdaaGreatDoorPart05
import Derived.SizedLaws
import Derived.RowKit
set_option linter.unusedSimpArgs false
set_option linter.unusedVariables false
set_option linter.unusedSectionVars false
set_option linter.unnecessarySimpa false
set_option linter.defProp false
namespace Go.Proofs.YthcleiegefhmdaaGreatDoor.Abs
open Go Go.RowKit Go.ChangeShapes Go.WideShapes
inductive ARep (P : Program) (m : Mem) (B : Nat) : TypeId → List Value → Prop
  | bool {t : TypeId} (h : P.underlying t = some .bool) (b : Bool) : ARep P m B t [.bool b]
  | int {t : TypeId} {k : IntKind} (h : P.underlying t = some (.int k)) (n : Int) (hw : (Lit.int k n).wf = true) : ARep P m B t [.int k n]
  | string {t : TypeId} (h : P.underlying t = some .string) (s : ByteArray) (hs : s.size ≤ B) : ARep P m B t [.string s]
  | nil {t e : TypeId} (h : P.underlying t = some (.slice e)) : ARep P m B t [.slice none 0 0]
  | empty {t e : TypeId} (h : P.underlying t = some (.slice e)) (b cap : Nat) (hb : m.Has b) (hc : cap ≤ maxLen) (hB : cap ≤ B ∧ cap * P.bytesOf e ≤ reachBytes) : ARep P m B t [.slice (some ⟨b, 0, none⟩) 0 cap]
  | slice {t e : TypeId} (h : P.underlying t = some (.slice e)) (b len cap : Nat) (all : List Value) (hb : m.get b = some (.cells true (P.cellsOf e) all)) (hl : all.length = len * P.cellsOf e) (hlc : len ≤ cap) (hc : cap ≤ maxLen) (hB : cap ≤ B ∧ cap * P.bytesOf e ≤ reachBytes)
      (hx : ∀ i, i < len → ARep P m B e ((all.drop (i * P.cellsOf e)).take (P.cellsOf e))) : ARep P m B t [.slice (some ⟨b, 0, none⟩) len cap]
  | struct {t : TypeId} {fs : Array Field} (h : P.underlying t = some (.struct fs)) (cs : List Value) (hl : cs.length = P.cellsOf t) (hx : ∀ f ∈ fs.toList, ARep P m B f.type ((cs.drop f.offset).take (P.cellsOf f.type))) : ARep P m B t cs
  | array {t e : TypeId} {n : Nat} (h : P.underlying t = some (.array n e)) (cs : List Value) (hl : cs.length = P.cellsOf t) (hx : ∀ i, i < n → ARep P m B e ((cs.drop (i * P.cellsOf e)).take (P.cellsOf e))) : ARep P m B t cs
theorem ARep.mono {P : Program} {m m' : Mem} {B : Nat} {t : TypeId} {cs : List Value} (h : ARep P m B t cs) (hh : ∀ b, m.Has b → m'.Has b) (hg : ∀ b x, m.get b = some x → m'.get b = some x) : ARep P m' B t cs := by
  induction h with
  | bool h b => exact .bool h b
  | int h n hw => exact .int h n hw
  | string h s hs => exact .string h s hs
  | nil h => exact .nil h
  | empty h b cap hb hc hB => exact .empty h b cap (hh b hb) hc hB
  | slice h b len cap all hb hl hlc hc hB _ ih => exact .slice h b len cap all (hg _ _ hb) hl hlc hc hB ih
  | struct h cs hl _ ih => exact .struct h cs hl ih
  | array h cs hl _ ih => exact .array h cs hl ih
structure Lifted (ι : Nat → Loc) (m : Mem) (w : World) : Prop where
  rel : Rel ι m w
  ro : ∀ b, ¬ m.Own b
structure Lifts (ι : Nat → Loc) (m : Mem) (κ : Nat → Loc) (m' : Mem) : Prop where
  has : ∀ b, m.Has b → m'.Has b
  at_ : ∀ b, m.Has b → κ b = ι b
  get : ∀ b x, m.get b = some x → m'.get b = some x
theorem Lifts.refl (ι : Nat → Loc) (m : Mem) : Lifts ι m ι m := ⟨fun _ h => h, fun _ _ => rfl, fun _ _ h => h⟩
theorem Lifts.trans {ι κ μ : Nat → Loc} {m m' m'' : Mem} (h : Lifts ι m κ m') (k : Lifts κ m' μ m'') : Lifts ι m μ m'' :=
  ⟨fun b hb => k.has b (h.has b hb), fun b hb => (k.at_ b (h.has b hb)).trans (h.at_ b hb), fun b x hb => k.get b x (h.get b x hb)⟩
theorem Lifts.rels {ι κ : Nat → Loc} {m m' : Mem} (h : Lifts ι m κ m') {xs ys : List Value} (hr : VRels m.Has ι xs ys) : VRels m'.Has κ xs ys := hr.mono h.has h.at_
theorem Lifted.nil (w : World) (hg : GlobK w) : Lifted (fun _ => ⟨0, 0, 0, 0⟩) ⟨[]⟩ w :=
  ⟨⟨fun b ro s cs hb => by have := Mem.get_lt hb; simp [Mem.size] at this, fun b b' hb => by
    obtain ⟨x, hx⟩ := Option.ne_none_iff_exists'.1 hb
    have := Mem.get_lt hx; simp [Mem.size] at this, ⟨hg, fun b ⟨s, cs, hb⟩ => by have := Mem.get_lt hb; simp [Mem.size] at this⟩⟩, fun b ⟨s, cs, hb⟩ => by have := Mem.get_lt hb; simp [Mem.size] at this⟩
def pushDead (m : Mem) : Mem := ⟨m.blks ++ [some none]⟩
theorem get_dead {m : Mem} {b : Nat} {x : Blk} (h : (pushDead m).get b = some x) : m.get b = some x := by
  have h1 := Mem.get_some h
  unfold pushDead at h1
  simp only [List.getElem?_append] at h1
  split at h1
  · unfold Mem.get; rw [h1]
  · rename_i hb
    cases hk : b - m.blks.length with
    | zero => rw [hk] at h1; simp at h1
    | succ k => rw [hk] at h1; simp at h1
theorem has_dead {m : Mem} {b : Nat} (h : m.Has b) : (pushDead m).Has b := by
  obtain ⟨o, ho⟩ := h
  have hl := (List.getElem?_eq_some_iff.1 ho).1
  exact ⟨o, by unfold pushDead; rw [List.getElem?_append, if_pos hl]; exact ho⟩
theorem has_dead_new (m : Mem) : (pushDead m).Has m.size := ⟨none, by simp [pushDead, Mem.size]⟩
theorem dead_get {m : Mem} {b : Nat} {x : Blk} (h : m.get b = some x) : (pushDead m).get b = some x := by
  have h1 := Mem.get_some h
  have hl := (List.getElem?_eq_some_iff.1 h1).1
  unfold Mem.get pushDead
  rw [List.getElem?_append, if_pos hl, h1]
theorem Lifted.dead {ι : Nat → Loc} {m : Mem} {w : World} (h : Lifted ι m w) (l : Loc) : Lifted (newLoc ι m.size l) (pushDead m) w ∧ Lifts ι m (newLoc ι m.size l) (pushDead m) := by
  have hat : ∀ b, m.Has b → newLoc ι m.size l b = ι b := fun b hb => newLoc_old l (Mem.has_lt hb)
  refine ⟨⟨⟨fun b ro s cs hb => ?_, fun b b' _ ⟨s, cs, hb'⟩ _ => absurd ⟨s, cs, get_dead hb'⟩ (h.ro b'), ⟨h.rel.glob.known, fun b ⟨s, cs, hb⟩ => absurd ⟨s, cs, get_dead hb⟩ (h.ro b)⟩⟩, fun b ⟨s, cs, hb⟩ => h.ro b ⟨s, cs, get_dead hb⟩⟩, ⟨fun _ => has_dead, hat, fun _ _ => dead_get⟩⟩
  have hg := get_dead hb
  rw [hat b (Mem.get_has hg)]
  obtain ⟨C, e, fz, h1, h2, h3, h4, h5, h6⟩ := h.rel.at' b ro s cs hg
  exact ⟨C, e, fz, h1, h2, h3, h4, fun i v hi => by
    obtain ⟨h7, v', h8, h9⟩ := h5 i v hi
    exact ⟨h7, v', h8, h9.mono (fun _ => has_dead) hat⟩, h6⟩
theorem Lifted.push {ι : Nat → Loc} {m : Mem} {w : World} (h : Lifted ι m w) (l : Loc) (cs : List Value) (C : Array Value) (e : TypeId) (fz : Nat × Nat) (hC : w.heap[l.blk]? = some (.cells C e fz)) (hs : C.size = l.size) (hl : l.base + cs.length ≤ C.size)
    (hv : ∀ i v, cs[i]? = some v → v.oneCell' = true ∧ ∃ v', C[l.base + i]? = some v' ∧ VRel m.Has ι v v') (hst : TagAt l.base l.stride e C.size cs.length) : Lifted (newLoc ι m.size l) (m.push (.cells true l.stride cs)) w ∧ Lifts ι m (newLoc ι m.size l) (m.push (.cells true l.stride cs)) := by
  have hat : ∀ b, m.Has b → newLoc ι m.size l b = ι b := fun b hb => newLoc_old l (Mem.has_lt hb)
  have hnot : ∀ b, ¬ (m.push (.cells true l.stride cs)).Own b := by
    rintro b ⟨s, cs', hb⟩
    rcases Mem.get_push hb with ⟨_, hg⟩ | ⟨_, hx⟩
    · exact h.ro b ⟨s, cs', hg⟩
    · cases hx
  have mono : ∀ {v v' : Value}, VRel m.Has ι v v' → VRel (m.push (.cells true l.stride cs)).Has (newLoc ι m.size l) v v' := fun hv => hv.mono (fun _ hb => Mem.has_push _ hb) hat
  refine ⟨⟨⟨fun b ro s cs' hb => ?_, fun b b' _ hb' _ => absurd hb' (hnot b'), ⟨h.rel.glob.known, fun b hb => absurd hb (hnot b)⟩⟩, hnot⟩, ⟨fun _ hb => Mem.has_push _ hb, hat, fun b x hb => by rw [Mem.get_push_old (Mem.get_lt hb)]; exact hb⟩⟩
  rcases Mem.get_push hb with ⟨hlt, hg⟩ | ⟨rfl, hx⟩
  · rw [hat b (Mem.get_has hg)]
    obtain ⟨C, e, fz, h1, h2, h3, h4, h5, h6⟩ := h.rel.at' b ro s cs' hg
    exact ⟨C, e, fz, h1, h2, h3, h4, fun i v hi => by
      obtain ⟨h7, v', h8, h9⟩ := h5 i v hi
      exact ⟨h7, v', h8, mono h9⟩, h6⟩
  · cases hx
    rw [newLoc_new]
    exact ⟨C, e, fz, hC, hs, ⟨rfl, hst⟩, hl, fun i v hi => by
      obtain ⟨h7, v', h8, h9⟩ := hv i v hi
      exact ⟨h7, v', h8, mono h9⟩, fun hf => by cases hf⟩
def tiles (P : Program) : Nat → List Field → Option Nat
  | o, [] => some o
  | o, f :: r => if f.offset = o then tiles P (o + P.cellsOf f.type) r else none
def liftable (P : Program) : Nat → TypeId → Bool
  | 0, _ => false
  | d + 1, t => match P.underlying t with
    | some .bool => true
    | some (.int _) => true
    | some .string => true
    | some (.slice e) => decide (0 < P.cellsOf e ∧ 0 < P.bytesOf e ∧ P.bytesOf e ≤ 67108864) && liftable P d e
    | some (.struct fs) => (tiles P 0 fs.toList == some (P.cellsOf t)) && fs.toList.all fun f => liftable P d f.type
    | some (.array n e) => (n * P.cellsOf e == P.cellsOf t) && liftable P d e
    | _ => false
section
variable {H : Type} {enc : TypeId × Value → H} {P : Program} {B : Nat} {w : World} {base : Nat}
def LiftOne (P : Program) (B : Nat) (w : World) (t : TypeId) (cs : List Value) : Prop := ∀ (ι : Nat → Loc) (m : Mem), Lifted ι m w → ∃ (κ : Nat → Loc) (m' : Mem) (cs' : List Value), Lifted κ m' w ∧ Lifts ι m κ m' ∧ ARep P m' B t cs' ∧ VRels m'.Has κ cs' cs ∧ ∀ v ∈ cs', v.oneCell' = true
theorem lift_many : ∀ (its : List (TypeId × List Value)), (∀ x ∈ its, LiftOne P B w x.1 x.2) → ∀ (ι : Nat → Loc) (m : Mem), Lifted ι m w → ∃ (κ : Nat → Loc) (m' : Mem) (css : List (List Value)), Lifted κ m' w ∧ Lifts ι m κ m' ∧ css.length = its.length ∧
    (∀ (i : Nat) (x : TypeId × List Value) (cs : List Value), its[i]? = some x → css[i]? = some cs → ARep P m' B x.1 cs ∧ cs.length = x.2.length) ∧ VRels m'.Has κ css.flatten (its.flatMap (·.2)) ∧ ∀ v ∈ css.flatten, v.oneCell' = true
  | [], _, ι, m, hl => ⟨ι, m, [], hl, Lifts.refl ι m, rfl, fun i x cs h => by simp at h, .nil, fun v hv => by simp at hv⟩
  | x :: r, h, ι, m, hl => by
    obtain ⟨κ, m1, cs, h1, h2, h3, h4, h5⟩ := h x (by simp) ι m hl
    obtain ⟨μ, m2, css, g1, g2, g3, g4, g5, g6⟩ := lift_many r (fun y hy => h y (by simp [hy])) κ m1 h1
    refine ⟨μ, m2, cs :: css, g1, h2.trans g2, by simp [g3], fun i y cs' hy hc => ?_, ?_, ?_⟩
    · cases i with
      | zero =>
        simp at hy hc; subst hy; subst hc
        exact ⟨h3.mono g2.has g2.get, h4.1⟩
      | succ i => exact g4 i y cs' (by simpa using hy) (by simpa using hc)
    · rw [List.flatten_cons, List.flatMap_cons]
      exact (g2.rels h4).append g5
    · intro v hv
      rw [List.flatten_cons, List.mem_append] at hv
      rcases hv with hv | hv
      · exact h5 v hv
      · exact g6 v hv
theorem flatten_at : ∀ (css : List (List Value)) (i : Nat) (cs : List Value), css[i]? = some cs → (css.flatten.drop (((css.take i).map List.length).sum)).take cs.length = cs
  | [], i, cs, h => by simp at h
  | x :: r, 0, cs, h => by simp at h; subst h; simp
  | x :: r, i + 1, cs, h => by
    have := flatten_at r i cs (by simpa using h)
    rw [List.flatten_cons, List.take_succ_cons, List.map_cons, List.sum_cons, List.drop_append, ]
    rw [List.drop_eq_nil_of_le (by omega), List.nil_append, Nat.add_sub_cancel_left]
    exact this
theorem tiles_at : ∀ (fs : List Field) (o n : Nat), tiles P o fs = some n → n = o + (fs.map fun f => P.cellsOf f.type).sum ∧ ∀ i f, fs[i]? = some f → f.offset = o + ((fs.take i).map fun f => P.cellsOf f.type).sum
  | [], o, n, h => by simp [tiles] at h; subst h; exact ⟨by simp, fun i f h => by simp at h⟩
  | g :: r, o, n, h => by
    unfold tiles at h
    split at h
    · rename_i hg
      obtain ⟨h1, h2⟩ := tiles_at r _ n h
      refine ⟨by rw [h1]; simp; omega, fun i f hf => ?_⟩
      cases i with
      | zero => simp at hf; subst hf; simp [hg]
      | succ i =>
        rw [h2 i f (by simpa using hf)]
        simp; omega
    · cases h
theorem sum_const : ∀ (l : List Nat) (n : Nat), (∀ x ∈ l, x = n) → l.sum = l.length * n
  | [], n, _ => by simp
  | x :: r, n, h => by
    rw [List.sum_cons, sum_const r n (fun y hy => h y (by simp [hy])), h x (by simp), List.length_cons, Nat.add_mul]
    omega
theorem flatMap_stretch : ∀ (k n : Nat) (cs : List Value), cs.length = k * n → ((List.range k).flatMap fun i => (cs.drop (i * n)).take n) = cs
  | 0, n, cs, h => by simp at h; simp [h]
  | k + 1, n, cs, h => by
    rw [List.range_succ, List.flatMap_append]
    have e : ((List.range k).flatMap fun i => (cs.drop (i * n)).take n) = ((List.range k).flatMap fun i => ((cs.take (k * n)).drop (i * n)).take n) := by
      rw [List.flatMap_def, List.flatMap_def]
      congr 1
      refine List.map_congr_left fun i hi => ?_
      have hi : i < k := by simpa using hi
      have : i * n + n ≤ k * n := by
        have := Nat.mul_le_mul_right n (show i + 1 ≤ k by omega)
        rw [Nat.add_mul] at this; omega
      rw [List.drop_take, List.take_take, Nat.min_eq_left (by omega)]
    rw [e, flatMap_stretch k n (cs.take (k * n)) (by rw [List.length_take, Nat.min_eq_left]; rw [h, Nat.add_mul]; omega)]
    rw [Nat.add_mul] at h
    simp only [List.flatMap_cons, List.flatMap_nil, List.append_nil]
    rw [List.take_of_length_le (l := cs.drop (k * n)) (by rw [List.length_drop]; omega), List.take_append_drop]
theorem tiles_stretch : ∀ (fs : List Field) (o n : Nat) (cs : List Value), tiles P o fs = some n → cs.length = n → (fs.flatMap fun f => (cs.drop f.offset).take (P.cellsOf f.type)) = cs.drop o
  | [], o, n, cs, h, hl => by
    simp [tiles] at h; subst h
    rw [List.drop_eq_nil_of_le (by omega)]; rfl
  | g :: r, o, n, cs, h, hl => by
    unfold tiles at h
    split at h
    · rename_i hg
      rw [List.flatMap_cons, tiles_stretch r _ n cs h hl, hg, ← List.drop_drop]
      exact List.take_append_drop _ _
    · cases h
theorem tiles_le : ∀ (fs : List Field) (o n : Nat), tiles P o fs = some n → o ≤ n
  | [], o, n, h => by simp [tiles] at h; omega
  | g :: r, o, n, h => by
    unfold tiles at h
    split at h
    · have := tiles_le r _ n h; omega
    · cases h
theorem tiles_len : ∀ (fs : List Field) (o n : Nat) (cs : List Value), tiles P o fs = some n → cs.length = n → ∀ f ∈ fs, ((cs.drop f.offset).take (P.cellsOf f.type)).length = P.cellsOf f.type
  | [], o, n, cs, h, hl, f, hf => by simp at hf
  | g :: r, o, n, cs, h, hl, f, hf => by
    unfold tiles at h
    split at h
    · rename_i hg
      have := tiles_le r _ n h
      rcases List.mem_cons.1 hf with rfl | hf
      · rw [List.length_take, List.length_drop, hg]; omega
      · exact tiles_len r _ n cs h hl f hf
    · cases h
theorem many_len (its : List (TypeId × List Value)) (css : List (List Value)) (h3 : css.length = its.length) {m : Mem}
    (h4 : ∀ (i : Nat) (x : TypeId × List Value) (cs : List Value), its[i]? = some x → css[i]? = some cs → ARep P m B x.1 cs ∧ cs.length = x.2.length) : css.map List.length = its.map fun x => x.2.length := by
  apply List.ext_getElem (by simp [h3])
  intro i h1 h2
  simp only [List.getElem_map]
  simp only [List.length_map] at h1 h2
  exact (h4 i _ _ (List.getElem?_eq_getElem h2) (List.getElem?_eq_getElem h1)).2
theorem lift_row (e : TypeId) (N len : Nat) (cs0 : List Value) (hl : cs0.length = len * N) (h : ∀ i, i < len → LiftOne P B w e ((cs0.drop (i * N)).take N)) (ι : Nat → Loc) (m : Mem) (hL : Lifted ι m w) :
    ∃ (κ : Nat → Loc) (m' : Mem) (cs' : List Value), Lifted κ m' w ∧ Lifts ι m κ m' ∧ cs'.length = len * N ∧ (∀ i, i < len → ARep P m' B e ((cs'.drop (i * N)).take N)) ∧ VRels m'.Has κ cs' cs0 ∧ ∀ v ∈ cs', v.oneCell' = true := by
  have hst : ∀ i, i < len → ((cs0.drop (i * N)).take N).length = N := by
    intro i hi
    have := Nat.mul_le_mul_right N (show i + 1 ≤ len by omega)
    rw [Nat.add_mul] at this
    rw [List.length_take, List.length_drop]; omega
  obtain ⟨κ, m', css, g1, g2, g3, g4, g5, g6⟩ := lift_many (P := P) (B := B) (w := w) ((List.range len).map fun i => (e, (cs0.drop (i * N)).take N)) (by
    intro x hx
    obtain ⟨i, hi, rfl⟩ := List.mem_map.1 hx
    exact h i (by simpa using hi)) ι m hL
  have hmap : ((List.range len).map fun i => (e, (cs0.drop (i * N)).take N)).flatMap (·.2) = cs0 := by
    rw [List.flatMap_map]
    exact flatMap_stretch len N cs0 hl
  rw [hmap] at g5
  have hml := many_len _ css g3 g4
  have hN : ∀ k, k ∈ css.map List.length → k = N := by
    intro k hk
    rw [hml, List.map_map] at hk
    obtain ⟨i, hi, rfl⟩ := List.mem_map.1 hk
    exact hst i (by simpa using hi)
  refine ⟨κ, m', css.flatten, g1, g2, by rw [g5.1, hl], fun i hi => ?_, g5, g6⟩
  have hi2 : i < css.length := by rw [g3]; simpa using hi
  have h7 := flatten_at css i _ (List.getElem?_eq_getElem hi2)
  rw [sum_const _ N (fun x hx => hN x (by rw [List.map_take] at hx; exact List.mem_of_mem_take hx)), List.length_map, List.length_take, Nat.min_eq_left (by omega), hN css[i].length (List.mem_map.2 ⟨_, List.getElem_mem _, rfl⟩)] at h7
  rw [h7]
  exact (g4 i (e, (cs0.drop (i * N)).take N) css[i] (by simp [hi]) (List.getElem?_eq_getElem hi2)).1
theorem lift_fields (t : TypeId) (fs : Array Field) (hu : P.underlying t = some (.struct fs)) (ht : tiles P 0 fs.toList = some (P.cellsOf t)) (cs0 : List Value) (hl : cs0.length = P.cellsOf t)
    (h : ∀ f ∈ fs.toList, LiftOne P B w f.type ((cs0.drop f.offset).take (P.cellsOf f.type))) : LiftOne P B w t cs0 := by
  intro ι m hL
  obtain ⟨κ, m', css, g1, g2, g3, g4, g5, g6⟩ := lift_many (P := P) (B := B) (w := w) (fs.toList.map fun f => (f.type, (cs0.drop f.offset).take (P.cellsOf f.type))) (by
    intro x hx
    obtain ⟨f, hf, rfl⟩ := List.mem_map.1 hx
    exact h f hf) ι m hL
  have hmap : (fs.toList.map fun f => (f.type, (cs0.drop f.offset).take (P.cellsOf f.type))).flatMap (·.2) = cs0 := by
    rw [List.flatMap_map]
    have := tiles_stretch fs.toList 0 _ cs0 ht hl
    rw [List.drop_zero] at this
    exact this
  rw [hmap] at g5
  have hml := many_len _ css g3 g4
  have hcf : css.map List.length = fs.toList.map fun f => P.cellsOf f.type := by
    rw [hml, List.map_map]
    exact List.map_congr_left fun f hf => tiles_len fs.toList 0 _ cs0 ht hl f hf
  refine ⟨κ, m', css.flatten, g1, g2, .struct hu _ (by rw [g5.1, hl]) fun f hf => ?_, g5, g6⟩
  obtain ⟨i, hi, hfi⟩ := List.getElem_of_mem hf
  have hi2 : i < css.length := by rw [g3]; simpa using hi
  have hoff := (tiles_at fs.toList 0 _ ht).2 i f (by rw [List.getElem?_eq_getElem hi, hfi])
  have h7 := flatten_at css i _ (List.getElem?_eq_getElem hi2)
  have hlen : css[i].length = P.cellsOf f.type := by
    have := (g4 i (f.type, (cs0.drop f.offset).take (P.cellsOf f.type)) css[i] (by rw [List.getElem?_map, List.getElem?_eq_getElem hi, hfi]; rfl) (List.getElem?_eq_getElem hi2)).2
    rw [this]
    exact tiles_len fs.toList 0 _ cs0 ht hl f hf
  rw [List.map_take, hcf, ← List.map_take, ← Nat.zero_add (List.sum _), ← hoff, hlen] at h7
  rw [h7]
  exact (g4 i (f.type, (cs0.drop f.offset).take (P.cellsOf f.type)) css[i] (by rw [List.getElem?_map, List.getElem?_eq_getElem hi, hfi]; rfl) (List.getElem?_eq_getElem hi2)).1
theorem lift_slice (t e : TypeId) (hu : P.underlying t = some (.slice e)) (hN : 0 < P.cellsOf e) (a : Addr) (len cap : Nat) (hlc : len ≤ cap) (hc : cap ≤ maxLen) (hB : cap ≤ B ∧ cap * P.bytesOf e ≤ reachBytes)
    (h : ∀ i, i < len → ∃ cs, w.cells? base (a.add (i * P.cellsOf e)) (P.cellsOf e) = some cs ∧ LiftOne P B w e cs) (hsp : 0 < cap → a.spot = none) : LiftOne P B w t [.slice (some a) len cap] := by
  intro ι m hL
  obtain ⟨b, off, sp⟩ := a
  by_cases h0 : len = 0
  · subst h0
    obtain ⟨g1, g2⟩ := hL.dead ⟨b, off, 0, 0⟩
    refine ⟨_, _, [.slice (some ⟨m.size, 0, none⟩) 0 cap], g1, g2, .empty hu _ _ (has_dead_new m) hc hB, .cons ?_ .nil, fun v hv => by simp at hv; subst hv; rfl⟩
    by_cases hc0 : cap = 0
    · subst hc0
      exact .empty _ _ _ (has_dead_new m)
    · have hsp := hsp (by omega)
      simp only at hsp
      subst hsp
      have := VRel.slice (n := (pushDead m).Has) (ι := newLoc ι m.size ⟨b, off, 0, 0⟩) m.size 0 0 cap cap (has_dead_new m) (Nat.zero_le _) (.inl rfl)
      rw [newLoc_new] at this
      exact this
  · obtain ⟨N, hNe⟩ : ∃ N, N = P.cellsOf e := ⟨_, rfl⟩
    rw [← hNe] at hN h
    have hsp := hsp (by omega)
    simp only at hsp
    subst hsp
    have hcell : ∀ i, i < len → ∃ cs, w.cells? base (⟨b, off + i * N, none⟩ : Addr) N = some cs ∧ LiftOne P B w e cs := by
      intro i hi
      have := h i hi
      rwa [Addr_add] at this
    obtain ⟨cs1, hc1, _⟩ := hcell 0 (by omega)
    obtain ⟨hl1, hg1⟩ := cells?_get hc1
    have hw0 := hg1 0 cs1[0] (List.getElem?_eq_getElem (by omega))
    rw [Addr_add] at hw0
    have hblk : ∃ C e fz, w.heap[b]? = some (.cells C e fz) := by
      unfold World.cell? at hw0
      simp only at hw0
      split at hw0
      · rename_i C e fz hC; exact ⟨C, e, fz, hC⟩
      · cases hw0
    obtain ⟨C, eC, fz, hC⟩ := hblk
    have hin : ∀ i, i < len → off + i * N + N ≤ C.size ∧ ∀ cs, w.cells? base (⟨b, off + i * N, none⟩ : Addr) N = some cs → cs = ((C.toList.drop off).drop (i * N)).take N := by
      intro i hi
      obtain ⟨cs, hcs, _⟩ := hcell i hi
      obtain ⟨hl, hg⟩ := cells?_get hcs
      have hge : ∀ j, j < N → C[off + i * N + j]? = cs[j]? := by
        intro j hj
        have := hg j cs[j] (List.getElem?_eq_getElem (by omega))
        rw [Addr_add, cell_of_block hC] at this
        rw [this, List.getElem?_eq_getElem]
      have hlast := hge (N - 1) (by omega)
      rw [List.getElem?_eq_getElem (by omega)] at hlast
      have hlt := (Array.getElem?_eq_some_iff.1 hlast).1
      refine ⟨by omega, fun cs' hcs' => ?_⟩
      rw [hcs] at hcs'
      cases hcs'
      apply List.ext_getElem?
      intro j
      by_cases hj : j < N
      · rw [← hge j hj, List.getElem?_take, if_pos hj, List.getElem?_drop, List.getElem?_drop, Array.getElem?_toList, Nat.add_assoc]
      · rw [List.getElem?_eq_none (by omega), List.getElem?_eq_none (by rw [List.length_take]; omega)]
    have hsz : off + len * N ≤ C.size := by
      have := (hin (len - 1) (by omega)).1
      rw [Nat.sub_mul, Nat.one_mul] at this
      have h2 : N ≤ len * N := Nat.le_mul_of_pos_left _ (by omega)
      omega
    have hl0 : ((C.toList.drop off).take (len * N)).length = len * N := by rw [List.length_take, List.length_drop, Array.length_toList]; omega
    obtain ⟨κ, m', cs', g1, g2, g3, g4, g5, g6⟩ := lift_row (P := P) (B := B) (w := w) e N len ((C.toList.drop off).take (len * N)) hl0 (by
      intro i hi
      obtain ⟨cs, hcs, hlo⟩ := hcell i hi
      have := (hin i hi).2 cs hcs
      have h2 := Nat.mul_le_mul_right N (show i + 1 ≤ len by omega)
      rw [Nat.add_mul] at h2
      rw [List.drop_take, List.take_take, Nat.min_eq_left (by omega), ← this]
      exact hlo) ι m hL
    have hlen : cs'.length = len * N := g3
    obtain ⟨k1, k2⟩ := g1.push ⟨b, off, C.size, N⟩ cs' C eC fz hC rfl (by simp only; omega) (by
      intro i v hi
      refine ⟨g6 v (List.mem_of_getElem? hi), ?_⟩
      obtain ⟨y, hy, hr⟩ := g5.get hi
      rw [List.getElem?_take] at hy
      split at hy
      · rw [List.getElem?_drop, Array.getElem?_toList] at hy; exact ⟨y, hy, hr⟩
      · cases hy) (.row len hlen)
    refine ⟨_, _, [.slice (some ⟨m'.size, 0, none⟩) len cap], k1, g2.trans k2, .slice hu _ _ _ cs' (by rw [← hNe]; exact Mem.get_push_new _ _) (by rw [← hNe]; exact hlen) hlc hc hB (fun i hi => ?_), .cons ?_ .nil, fun v hv => by simp at hv; subst hv; rfl⟩
    · rw [← hNe]
      exact (g4 i hi).mono k2.has k2.get
    · have := VRel.slice (n := (m'.push (.cells true N cs')).Has) (ι := newLoc κ m'.size ⟨b, off, C.size, N⟩) m'.size 0 len cap cap (Mem.has_push_new _ _) hlc (.inl rfl)
      rw [newLoc_new] at this
      exact this
structure Closed (P : Program) (B : Nat) (K : TypeId → DataW H → Prop) : Prop where
  str : ∀ t l, K t (.lit (.string l)) → l.length ≤ B
  slice : ∀ t e es sp, P.underlying t = some (.slice e) → 0 < P.bytesOf e → P.bytesOf e ≤ 67108864 → K t (.slice es sp) → (es.length + sp.length ≤ B ∧ (es.length + sp.length) * P.bytesOf e ≤ reachBytes) ∧ ∀ d ∈ es, K e d
  struct : ∀ t fs ps, P.underlying t = some (.struct fs) → K t (.agg ps) → ∀ (i : Nat) (f : Field) d, fs[i]? = some f → ps[i]? = some d → K f.type d
  array : ∀ t n e ps, P.underlying t = some (.array n e) → K t (.agg ps) → ∀ d ∈ ps, K e d
theorem lift_one {K : TypeId → DataW H → Prop} (hK : Closed P B K) : ∀ (fuel d : Nat) (t : TypeId) (cs : List Value) (x : DataW H × List MemPlace), liftable P d t = true → DataW.trod enc P w base (fun _ => true) true fuel t cs = some x → K t x.1 → LiftOne P B w t cs
  | 0, _, _, _, _, _, h, _ => by simp [DataW.trod] at h
  | fuel + 1, 0, _, _, _, hd, _, _ => by simp [liftable] at hd
  | fuel + 1, d + 1, t, cs, x, hd, h, hk => by
    intro ι m hL
    unfold liftable at hd
    have one : ∀ v, flat 3 v = true → v.oneCell' = true → ARep P m B t [v] → ∃ (κ : Nat → Loc) (m' : Mem) (cs' : List Value), Lifted κ m' w ∧ Lifts ι m κ m' ∧ ARep P m' B t cs' ∧ VRels m'.Has κ cs' [v] ∧ ∀ v ∈ cs', v.oneCell' = true := fun v hf h1 hr =>
      ⟨ι, m, [v], hL, Lifts.refl ι m, hr, .cons (flat_rel 3 v hf) .nil, fun u hu => by simp at hu; subst hu; exact h1⟩
    cases hu : P.underlying t with
    | none => simp [hu] at hd
    | some ty =>
      simp only [hu] at hd
      cases ty <;> simp only [Bool.false_eq_true] at hd
      case bool =>
        simp only [DataW.trod, hu] at h
        split at h <;> simp_all
        exact one _ rfl rfl (.bool hu _)
      case int k =>
        simp only [DataW.trod, hu] at h
        split at h <;> simp_all
        rename_i h0
        obtain ⟨⟨rfl, hw⟩, _⟩ := h
        cases h0
        exact one _ rfl rfl (.int hu _ hw)
      case string =>
        simp only [DataW.trod, hu] at h
        split at h <;> simp_all
        obtain ⟨_, rfl⟩ := h
        have := hK.str _ _ hk
        exact one _ rfl rfl (.string hu _ (by simpa using this))
      case slice e =>
        simp only [Bool.and_eq_true, decide_eq_true_eq] at hd
        simp only [DataW.trod, hu] at h
        match cs, h with
        | [.slice none 0 0], h => exact one _ rfl rfl (.nil hu)
        | [.slice (some a) len cap], h =>
          simp only at h
          split at h
          · rename_i hlc
            simp only [Option.bind_eq_some_iff, Option.map_eq_some_iff, if_true] at h
            obtain ⟨elems, h1, rest, h2, rfl⟩ := h
            obtain ⟨hkB, hke⟩ := hK.slice _ _ _ _ hu hd.1.2.1 hd.1.2.2 hk
            have hat : ∀ i y, K e y.1 → (w.cells? base (a.add (i * P.cellsOf e)) (P.cellsOf e)).bind (DataW.trod enc P w base (fun _ => true) true fuel e) = some y → ∃ cs, w.cells? base (a.add (i * P.cellsOf e)) (P.cellsOf e) = some cs ∧ LiftOne P B w e cs := by
              intro i y hky hy
              rw [Option.bind_eq_some_iff] at hy
              obtain ⟨cs, hcs, htr⟩ := hy
              exact ⟨cs, hcs, lift_one hK fuel d e cs y hd.2 htr hky⟩
            obtain ⟨l1, k1⟩ := mapM_get h1
            obtain ⟨l2, k2⟩ := mapM_get h2
            have hel : ∀ i, i < len → ∃ cs, w.cells? base (a.add (i * P.cellsOf e)) (P.cellsOf e) = some cs ∧ LiftOne P B w e cs := by
              intro i hi
              have := k1 i (by simpa using hi)
              rw [List.getElem_range, List.getElem?_eq_getElem (by rw [l1]; simpa using hi)] at this
              exact hat i _ (hke _ (List.mem_map.2 ⟨_, List.getElem_mem _, rfl⟩)) this
            refine lift_slice t e hu hd.1.1 a len cap hlc.2.1 hlc.2.2 (by
              have e1 : (elems.map (·.1)).length + (rest.map (·.1)).length = cap := by
                rw [List.length_map, List.length_map, l1, l2, List.length_range, List.length_range]; omega
              rw [e1] at hkB
              exact hkB) hel (fun hcap => ?_) ι m hL
            have : ∃ cs, w.cells? base (a.add (0 * P.cellsOf e)) (P.cellsOf e) = some cs := by
              by_cases h0 : 0 < len
              · obtain ⟨cs, hcs, _⟩ := hel 0 h0
                exact ⟨cs, hcs⟩
              · have := k2 0 (by simp; omega)
                rw [List.getElem_range, List.getElem?_eq_getElem (by rw [l2]; simp; omega)] at this
                rw [Option.bind_eq_some_iff] at this
                obtain ⟨cs, hcs, _⟩ := this
                have e0 : len + 0 = 0 := by omega
                rw [e0] at hcs
                exact ⟨cs, hcs⟩
            obtain ⟨cs, hcs⟩ := this
            obtain ⟨hl, hg⟩ := cells?_get hcs
            have := hg 0 cs[0] (List.getElem?_eq_getElem (by omega))
            have := World.cell?_spot this
            simpa [Addr.add] using this
          · cases h
      case struct fs =>
        simp only [Bool.and_eq_true, beq_iff_eq, List.all_eq_true] at hd
        simp only [DataW.trod, hu] at h
        split at h
        · rename_i hl
          simp only [Option.map_eq_some_iff] at h
          obtain ⟨xs, h1, rfl⟩ := h
          obtain ⟨l1, k1⟩ := mapM_get h1
          refine lift_fields t fs hu hd.1 cs hl (fun f hf => ?_) ι m hL
          obtain ⟨i, hi, rfl⟩ := List.getElem_of_mem hf
          have := k1 i hi
          rw [List.getElem?_eq_getElem (by rw [l1]; exact hi)] at this
          exact lift_one hK fuel d _ _ _ (hd.2 _ hf) this (hK.struct _ _ _ hu hk i _ _ (by rw [← Array.getElem?_toList, List.getElem?_eq_getElem hi]) (by rw [List.getElem?_map, List.getElem?_eq_getElem (by rw [l1]; exact hi)]; rfl))
        · cases h
      case array n e =>
        simp only [Bool.and_eq_true, beq_iff_eq] at hd
        simp only [DataW.trod, hu] at h
        split at h
        · rename_i hl
          simp only [Option.map_eq_some_iff] at h
          obtain ⟨xs, h1, rfl⟩ := h
          obtain ⟨l1, k1⟩ := mapM_get h1
          obtain ⟨κ, m', cs', g1, g2, g3, g4, g5, g6⟩ := lift_row (P := P) (B := B) (w := w) e (P.cellsOf e) n cs (by rw [hl, hd.1]) (fun i hi => by
            have := k1 i (by simpa using hi)
            rw [List.getElem_range, List.getElem?_eq_getElem (by rw [l1]; simpa using hi)] at this
            exact lift_one hK fuel d e _ _ hd.2 this (hK.array _ _ _ _ hu hk _ (List.mem_map.2 ⟨_, List.getElem_mem _, rfl⟩))) ι m hL
          exact ⟨κ, m', cs', g1, g2, .array hu cs' (by rw [g3, hd.1]) g4, g5, g6⟩
        · cases h
end
def ArgOf (P : Program) (m : Mem) (B : Nat) (t : TypeId) (v : Value) : Prop :=
  match P.underlying t with
  | some (.struct _) | some (.array _ _) => ∃ cs : List Value, v = .agg cs.toArray ∧ ARep P m B t cs
  | _ => ARep P m B t [v]
theorem ArgOf.mono {P : Program} {m m' : Mem} {B : Nat} {t : TypeId} {v : Value} (h : ArgOf P m B t v) (hh : ∀ b, m.Has b → m'.Has b) (hg : ∀ b x, m.get b = some x → m'.get b = some x) : ArgOf P m' B t v := by
  unfold ArgOf at h ⊢
  split <;> rename_i hu <;> simp only [hu] at h
  · obtain ⟨cs, e, h⟩ := h; exact ⟨cs, e, h.mono hh hg⟩
  · obtain ⟨cs, e, h⟩ := h; exact ⟨cs, e, h.mono hh hg⟩
  · exact h.mono hh hg
inductive ArgsOf (P : Program) (m : Mem) (B : Nat) : List TypeId → List Value → Prop
  | nil : ArgsOf P m B [] []
  | cons {t : TypeId} {v : Value} {ts : List TypeId} {vs : List Value} (h : ArgOf P m B t v) (hs : ArgsOf P m B ts vs) : ArgsOf P m B (t :: ts) (v :: vs)
theorem ArgsOf.mono {P : Program} {m m' : Mem} {B : Nat} {ts : List TypeId} {vs : List Value} (h : ArgsOf P m B ts vs) (hh : ∀ b, m.Has b → m'.Has b) (hg : ∀ b x, m.get b = some x → m'.get b = some x) : ArgsOf P m' B ts vs := by
  induction h with
  | nil => exact .nil
  | cons h _ ih => exact .cons (h.mono hh hg) ih
theorem lift_arg {H : Type} {enc : TypeId × Value → H} {P : Program} {B : Nat} {K : TypeId → DataW H → Prop} (hK : Closed P B K) {w : World} {base b2 : Nat} {t : TypeId} {v : Value} {d : DataW H} {ps : List MemPlace} (hl : liftable P 20 t = true) (hv : Value.okWide P w .any b2 t v)
    (h : DataW.Trod enc P w base (fun _ => true) true t v d ps) (hk : K t d) (ι : Nat → Loc) (m : Mem) (hL : Lifted ι m w) :
    ∃ (κ : Nat → Loc) (m' : Mem) (v' : Value), Lifted κ m' w ∧ Lifts ι m κ m' ∧ ArgOf P m' B t v' ∧ VRel m'.Has κ v' v := by
  obtain ⟨fuel, h⟩ := h
  obtain ⟨κ, m', cs', g1, g2, g3, g4, g5⟩ := lift_one (enc := enc) hK fuel 20 t _ _ hl h hk ι m hL
  have hrow : (∃ cs : Array Value, v = .agg cs) → ((∃ fs, P.underlying t = some (.struct fs)) ∨ (∃ n e, P.underlying t = some (.array n e))) → ∃ (κ : Nat → Loc) (m' : Mem) (v' : Value), Lifted κ m' w ∧ Lifts ι m κ m' ∧ ArgOf P m' B t v' ∧ VRel m'.Has κ v' v := by
    rintro ⟨cs, rfl⟩ ht
    refine ⟨κ, m', .agg cs'.toArray, g1, g2, ?_, VRel.aggs (by simpa [Value.cells] using g4)⟩
    unfold ArgOf
    rcases ht with ⟨fs, hu⟩ | ⟨n, e, hu⟩ <;> rw [hu] <;> exact ⟨cs', rfl, g3⟩
  have hone : v.cells.toList = [v] → (∀ fs, P.underlying t ≠ some (.struct fs)) → (∀ n e, P.underlying t ≠ some (.array n e)) → ∃ (κ : Nat → Loc) (m' : Mem) (v' : Value), Lifted κ m' w ∧ Lifts ι m κ m' ∧ ArgOf P m' B t v' ∧ VRel m'.Has κ v' v := by
    intro hc h1 h2
    rw [hc] at g4
    have hlen := g4.1
    match cs', hlen with
    | [u], _ =>
      refine ⟨κ, m', u, g1, g2, ?_, g4.2 0 u v rfl rfl⟩
      unfold ArgOf
      split
      · rename_i fs hu; exact absurd hu (h1 fs)
      · rename_i n e hu; exact absurd hu (h2 n e)
      · exact g3
  unfold liftable at hl
  unfold Value.okWide at hv
  cases hu : P.underlying t with
  | none => simp [hu] at hl
  | some ty =>
    simp only [hu] at hl hv
    cases ty <;> simp only [Bool.false_eq_true] at hl
    case bool =>
      refine hone ?_ (by simp [hu]) (by simp [hu])
      unfold Cell.okWide at hv
      simp only [hu] at hv
      unfold Cell.ok at hv
      simp only [hu] at hv
      cases v <;> simp_all [Value.cells]
    case int k =>
      refine hone ?_ (by simp [hu]) (by simp [hu])
      unfold Cell.okWide at hv
      simp only [hu] at hv
      unfold Cell.ok at hv
      simp only [hu] at hv
      cases v <;> simp_all [Value.cells]
    case string =>
      refine hone ?_ (by simp [hu]) (by simp [hu])
      unfold Cell.okWide at hv
      simp only [hu] at hv
      unfold Cell.ok at hv
      simp only [hu] at hv
      cases v <;> simp_all [Value.cells]
    case slice e =>
      refine hone ?_ (by simp [hu]) (by simp [hu])
      unfold Cell.okWide at hv
      simp only [hu] at hv
      unfold Cell.ok at hv
      simp only [hu] at hv
      cases v <;> simp_all [Value.cells]
    case struct fs =>
      obtain ⟨cs, rfl, _⟩ := hv
      exact hrow ⟨cs, rfl⟩ (.inl ⟨fs, hu⟩)
    case array n e =>
      obtain ⟨cs, rfl, _⟩ := hv
      exact hrow ⟨cs, rfl⟩ (.inr ⟨n, e, hu⟩)
theorem lift_args {H : Type} {enc : TypeId × Value → H} {P : Program} {B : Nat} {K : TypeId → DataW H → Prop} (hK : Closed P B K) {w : World} {base b2 : Nat} : ∀ (ts : List TypeId) (vs : List Value) (ds : List (DataW H)) (ps : List MemPlace), (∀ t ∈ ts, liftable P 20 t = true) →
    (∀ (j : Nat) t v, ts[j]? = some t → vs[j]? = some v → Value.okWide P w .any b2 t v) → DataW.TrodAll enc P w base (fun _ => true) true ts vs ds ps → (∀ (j : Nat) t d, ts[j]? = some t → ds[j]? = some d → K t d) → ∀ (ι : Nat → Loc) (m : Mem), Lifted ι m w →
    ∃ (κ : Nat → Loc) (m' : Mem) (vs' : List Value), Lifted κ m' w ∧ Lifts ι m κ m' ∧ ArgsOf P m' B ts vs' ∧ VRels m'.Has κ vs' vs
  | [], [], [], _, _, _, _, _, ι, m, hL => ⟨ι, m, [], hL, Lifts.refl ι m, .nil, .nil⟩
  | t :: ts, v :: vs, d :: ds, _, hl, hv, h, hk, ι, m, hL => by
    obtain ⟨p, q, h1, h2, rfl⟩ := h
    obtain ⟨κ, m1, vs', g1, g2, g3, g4⟩ := lift_args hK ts vs ds q (fun t ht => hl t (by simp [ht])) (fun j t' v' hj1 hj2 => hv (j + 1) t' v' (by simpa using hj1) (by simpa using hj2)) h2 (fun j t' d' hj1 hj2 => hk (j + 1) t' d' (by simpa using hj1) (by simpa using hj2)) ι m hL
    obtain ⟨μ, m2, v', k1, k2, k3, k4⟩ := lift_arg hK (hl t (by simp)) (hv 0 t v rfl rfl) h1 (hk 0 t d rfl rfl) κ m1 g1
    exact ⟨μ, m2, v' :: vs', k1, g2.trans k2, .cons k3 (g3.mono k2.has k2.get), .cons k4 (k2.rels g4)⟩
  | [], _ :: _, _, _, _, _, h, _, _, _, _ => by simp [DataW.TrodAll] at h
  | [], [], _ :: _, _, _, _, h, _, _, _, _ => by simp [DataW.TrodAll] at h
  | _ :: _, [], _, _, _, _, h, _, _, _, _ => by simp [DataW.TrodAll] at h
  | _ :: _, _ :: _, [], _, _, _, h, _, _, _, _ => by simp [DataW.TrodAll] at h
theorem Spec.calls {P : Program} {k : FuncId} {xs : List Value} {m : Mem} {v : Value} (hf : flat 3 v = true) (h : Spec P k xs m fun u _ => u = v) {ι : Nat → Loc} {w : World} (hL : Lifted ι m w) {ys : List Value} (hy : VRels m.Has ι xs ys) :
    Calls P k ys.toArray w fun e w' => e = .returned v ∧ Below w.heap.size w w' := by
  refine (h ι w ys hy hL.rel).mono ?_
  rintro e w' ⟨u, v', κ, m', rfl, rfl, hv, hr, hs⟩
  exact ⟨by rw [flat_eq 3 _ _ hf hv], hs.os, hs.tape, hs.output, hs.size, fun g hg => hs.block g hg fun b hb => absurd hb (hL.ro b)⟩
theorem closed_sized {H : Type} (P : Program) : Closed (H := H) P reachBytes fun t d => ∀ n ∈ d.weights P t, n ≤ reachBytes where
  str t l h := h _ (by simp [DataW.weights])
  slice t e es sp hu h1 h2 h := by
    simp only [DataW.weights, hu] at h
    have h3 := h _ (List.mem_cons_self)
    refine ⟨⟨Nat.le_trans (Nat.le_mul_of_pos_right _ h1) h3, h3⟩, fun d hd n hn => h n ?_⟩
    refine List.mem_cons_of_mem _ (List.mem_append_left _ ?_)
    clear h h3
    induction es with
    | nil => cases hd
    | cons x r ih =>
      rw [DataW.weightsAll, List.mem_append]
      rcases List.mem_cons.1 hd with rfl | hd
      · exact .inl hn
      · exact .inr (ih hd)
  struct t fs ps hu h i f d hf hd n hn := by
    simp only [DataW.weights, hu] at h
    exact h n (DataW.weights_mem_each (by rw [List.getElem?_map, Array.getElem?_toList, hf]; rfl) hd n hn)
  array t n e ps hu h d hd k hk := by
    simp only [DataW.weights, hu] at h
    refine h k ?_
    clear h
    induction ps with
    | nil => cases hd
    | cons x r ih =>
      rw [DataW.weightsAll, List.mem_append]
      rcases List.mem_cons.1 hd with rfl | hd
      · exact .inl hk
      · exact .inr (ih hd)
theorem calls_of_spec {P : Program} {n : FuncId} {f : Func} (ts : List TypeId) (hp : f.params.toList = ts) (hl : ∀ t ∈ ts, liftable P 20 t = true) (h : ∀ (m : Mem) (vs : List Value), (∀ b, ¬ m.Own b) → ArgsOf P m reachBytes ts vs → Spec P n vs m fun u _ => u = .bool true)
    {H : Type} {enc : TypeId × Value → H} {W : World} {base : Nat} {args : Array Value} {ds : List (DataW H)} {ps : List MemPlace} (hg : GlobK W) (hval : ∀ (j : Nat) t v, f.params[j]? = some t → args[j]? = some v → Value.okWide P W .any base t v)
    (hA : DataW.TrodAll enc P W 0 (fun _ => true) true f.params.toList args.toList ds ps) (hk : ∀ x ∈ DataW.weightsEach P f.params.toList ds, x ≤ reachBytes) : Calls P n args W fun e W' => e = .returned (.bool true) ∧ Below W.heap.size W W' := by
  rw [hp] at hA hk
  obtain ⟨κ, m, vs, g1, g2, g3, g4⟩ := lift_args (closed_sized P) (b2 := base) ts args.toList ds ps hl (fun j t v hj hv => hval j t v (by rw [← hp] at hj; simpa using hj) (by simpa using hv)) hA
    (fun j t d hj hd x hx => hk x (DataW.weights_mem_each hj hd x hx)) _ _ (Lifted.nil W hg)
  exact Spec.calls rfl (h m vs g1.ro g3) g1 g4
end Go.Proofs.YthcleiegefhmdaaGreatDoor.Abs
namespace Go.Proofs.YthcleiegefhmdaaGreatDoor
open Go.RowKit
def byteV (b : UInt8) : Value := .int .u8 b.toNat
def bytesV (l : List UInt8) : List Value := l.map byteV
def str (l : List UInt8) : ByteArray := ⟨l.toArray⟩
theorem str_data (l : List UInt8) : (str l).data.toList = l := rfl
theorem str_size (l : List UInt8) : (str l).size = l.length := by show l.toArray.size = _; simp
end Go.Proofs.YthcleiegefhmdaaGreatDoor
namespace Go.Proofs.YthcleiegefhmdaaGreatDoor.Abs
open Go Go.RowKit
def AL.keep (f : AL) : List Nat → AL
  | [] => []
  | t :: r => match AL.get f t with
    | some v => (t, v) :: AL.keep f r
    | none => AL.keep f r
theorem AL.keep_cons (f : AL) (t : Nat) (r : List Nat) (v : Value) (h : AL.get f t = some v) : AL.keep f (t :: r) = (t, v) :: AL.keep f r := by
  unfold AL.keep
  rw [h]
  cases r <;> rfl
section
variable {P : Program} {n : Nat} {Q : Exit → AL → Mem → Prop} {f : AL} {m : Mem}
end
def Grows (m m' : Mem) : Prop := m.size ≤ m'.size ∧ ∀ b x, m.get b = some x → m'.get b = some x
theorem Grows.refl (m : Mem) : Grows m m := ⟨Nat.le_refl _, fun _ _ h => h⟩
theorem Grows.trans {m m' m'' : Mem} (h : Grows m m') (k : Grows m' m'') : Grows m m'' := ⟨Nat.le_trans h.1 k.1, fun b x hb => k.2 b x (h.2 b x hb)⟩
theorem Grows.push {m m' : Mem} (h : Grows m m') (x : Blk) : Grows m (m'.push x) :=
  ⟨by simp only [Mem.size_push]; have := h.1; omega, fun b y hb => by
    have h1 := h.2 b y hb
    rw [Mem.get_push_old (Mem.get_lt h1)]; exact h1⟩
theorem Grows.set {m m' : Mem} (h : Grows m m') {g : Nat} (hg : m.size ≤ g) (o : Option Blk) : Grows m (m'.set g o) :=
  ⟨by simp only [Mem.size_set]; exact h.1, fun b y hb => by
    have := Mem.get_lt hb
    rw [Mem.get_set_ne (by omega)]; exact h.2 b y hb⟩
theorem hmix : Tryz.prog.follows .mixedOrders = true := by kernel_rfl
theorem inf_int : Tryz.prog.info? 3 = some Tryz.t3 := by kernel_rfl
theorem inf_u8 : Tryz.prog.info? 5 = some Tryz.t5 := by kernel_rfl
theorem inf_str : Tryz.prog.info? 9 = some Tryz.t9 := by kernel_rfl
theorem int_size : Tryz.t3.size = 1 := rfl
theorem int_zero : Tryz.t3.zero = some (.int .i64 0) := rfl
theorem u8_size : Tryz.t5.size = 1 := rfl
theorem u8_bytes : Tryz.t5.bytes = 1 := rfl
theorem u8_zero : Tryz.t5.zero = some (.int .u8 0) := rfl
theorem str_size : Tryz.t9.size = 1 := rfl
theorem row_int (k : IntKind) : (TypeDesc.int k).isRow = false := rfl
theorem row_str : TypeDesc.string.isRow = false := rfl
theorem new_one {P : Program} {t e : TypeId} {i : TypeInfo} {z : Value} (hu : P.underlying t = some (.slice e)) (hi : P.info? e = some i) (hz : i.zero = some z) (hs : i.size = 1) (hf : flat 3 z = true) (hzc : z.cells.toList = [z]) (hz1 : oneAll [z] = true)
    (v : Value) (hv : v.cells.toList = [v]) (h1 : oneAll [v] = true) : nBuildSlice P t 1 [(0, v)] = some (.cells false 1 [v]) := by
  unfold nBuildSlice
  simp only [hu, hi, hz, hs, hf, hzc, hz1, hv, h1]
  simp [aFill, aZeros, hv, setL, h1]
theorem app_one {P : Program} {t e : TypeId} {i : TypeInfo} {z : Value} (hu : P.underlying t = some (.slice e)) (hi : P.info? e = some i) (hz : i.zero = some z) (hs : i.size = 1) (hzc : z.cells.toList.length = 1)
    (m : Mem) (v : Value) {g n : Nat} {xs : List Value} (hg : m.get g = some (.cells false 1 xs)) (hn : n = xs.length) (hb : (n + 1) * i.bytes ≤ 140737488355328) (hb2 : n + 1 ≤ 140737488355328) :
    aAppend P (m.push (.cells false 1 [v])) t t (.slice (some ⟨g, 0, none⟩) n n) (.slice (some ⟨m.size, 0, none⟩) 1 1) =
      some (.slice (some ⟨m.size + 1, 0, none⟩) (n + 1) (n + 1), ((m.push (.cells false 1 [v])).set g none).push (.cells false 1 (xs ++ [v]))) := by
  subst hn
  have h1 : (m.push (.cells false 1 [v])).get g = some (.cells false 1 xs) := by rw [Mem.get_push_old (Mem.get_lt hg)]; exact hg
  unfold aAppend aSrc
  simp only [hu, hi, hz, hs, hzc, if_true, Mem.get_push_new, h1]
  simp [hb, hb2]
theorem app_nil {P : Program} {t e : TypeId} {i : TypeInfo} {z : Value} (hu : P.underlying t = some (.slice e)) (hi : P.info? e = some i) (hz : i.zero = some z) (hs : i.size = 1) (hzc : z.cells.toList.length = 1)
    (m : Mem) (v : Value) (hb : i.bytes ≤ 140737488355328) :
    aAppend P (m.push (.cells false 1 [v])) t t (.slice none 0 0) (.slice (some ⟨m.size, 0, none⟩) 1 1) =
      some (.slice (some ⟨m.size + 1, 0, none⟩) 1 1, (m.push (.cells false 1 [v])).push (.cells false 1 [v])) := by
  unfold aAppend aSrc
  simp only [hu, hi, hz, hs, hzc, if_true, Mem.get_push_new]
  simp [hb]
def Sl (m : Mem) (v : Value) (xs : List Value) : Prop := (v = .slice none 0 0 ∧ xs = []) ∨ ∃ g, v = .slice (some ⟨g, 0, none⟩) xs.length xs.length ∧ m.get g = some (.cells false 1 xs)
theorem Sl.app {P : Program} {t e : TypeId} {i : TypeInfo} {z : Value} (hu : P.underlying t = some (.slice e)) (hi : P.info? e = some i) (hz : i.zero = some z) (hs : i.size = 1) (hzc : z.cells.toList.length = 1)
    {m₀ m : Mem} {s : Value} {xs : List Value} (h : Sl m s xs) (hgr : Grows m₀ m) (hnew : ∀ g l c, s = .slice (some ⟨g, 0, none⟩) l c → m₀.size ≤ g) (v : Value) (hb : (xs.length + 1) * i.bytes ≤ 140737488355328) (hb2 : xs.length + 1 ≤ 140737488355328) :
    ∃ s' m', aAppend P (m.push (.cells false 1 [v])) t t s (.slice (some ⟨m.size, 0, none⟩) 1 1) = some (s', m') ∧ Sl m' s' (xs ++ [v]) ∧ Grows m₀ m' ∧ (∀ g l c, s' = .slice (some ⟨g, 0, none⟩) l c → m₀.size ≤ g) := by
  rcases h with ⟨rfl, rfl⟩ | ⟨g, rfl, hg⟩
  · refine ⟨_, _, app_nil hu hi hz hs hzc m v (by simpa using hb), .inr ⟨m.size + 1, by simp, ?_⟩, (hgr.push _).push _, fun g l c e => ?_⟩
    · have := Mem.get_push_new (m.push (.cells false 1 [v])) (.cells false 1 [v])
      rw [Mem.size_push] at this
      simpa using this
    · cases e; have := hgr.1; omega
  · refine ⟨_, _, app_one hu hi hz hs hzc m v hg rfl hb hb2, .inr ⟨m.size + 1, by simp, ?_⟩, ((hgr.push _).set (hnew g _ _ rfl) _).push _, fun g l c e => ?_⟩
    · have := Mem.get_push_new ((m.push (.cells false 1 [v])).set g none) (.cells false 1 (xs ++ [v]))
      rw [Mem.size_set, Mem.size_push] at this
      exact this
    · cases e; have := hgr.1; omega
theorem index_str (s : ByteArray) (i : Int) (k : Nat) (h : i = k) (hk : k < s.size) : aIndex Tryz.prog 9 (.string s) (.int .i64 i) = some (.int .u8 ((s.data.toList.getD k 0).toNat : Int)) := by
  subst h
  unfold aIndex
  have hk' : k < s.data.toList.length := by rw [Array.length_toList]; exact hk
  simp only [Tryz.underlying9, if_pos (show (0 : Int) ≤ (k : Int) by omega), Int.toNat_natCast, List.getD, List.getElem?_eq_getElem hk', Option.getD_some]
theorem Sl.at {m : Mem} {v : Value} {xs : List Value} (h : Sl m v xs) (hn : 0 < xs.length) : ∃ g, v = .slice (some ⟨g, 0, none⟩) xs.length xs.length ∧ m.get g = some (.cells false 1 xs) := by
  rcases h with ⟨_, rfl⟩ | h
  · simp at hn
  · exact h
theorem Sl.block {m : Mem} {g n : Nat} {xs : List Value} (hn : n = xs.length) (h : m.get g = some (.cells false 1 xs)) : Sl m (.slice (some ⟨g, 0, none⟩) n n) xs := .inr ⟨g, by rw [hn], h⟩
theorem sConv_slice (P : Program) (get : Nat → Option Blk) (s d : TypeId) (a : Option Addr) (l c : Nat) : sConv P get s d (some (.slice a l c)) = gToString P get s d (.slice a l c) := rfl
theorem cellBytes_bytesV : ∀ l : List UInt8, cellBytes (bytesV l) = some l
  | [] => rfl
  | b :: l => by
    have e : bytesV (b :: l) = Value.int .u8 (b.toNat : Int) :: bytesV l := rfl
    rw [e]
    simp only [cellBytes, cellBytes_bytesV l]
    simp
theorem to_str {get : Nat → Option Blk} {g n : Nat} {ro : Bool} {st : Nat} {l : List UInt8} (h : get g = some (.cells ro st (bytesV l))) (hn : n = l.length) : gToString Tryz.prog get 76 9 (.slice (some ⟨g, 0, none⟩) n n) = some (.string (str l)) := by
  subst hn
  have hl : (bytesV l).length = l.length := by simp [bytesV]
  unfold gToString
  simp only [Tryz.underlying9, Tryz.underlying76, Tryz.underlying5, h, List.drop_zero, Nat.zero_add, hl, Nat.le_refl, if_true]
  rw [List.take_of_length_le (by omega), cellBytes_bytesV]
  rfl
theorem wr {x : Int} (h0 : 0 ≤ x) (h1 : x ≤ 4611686018427387904) : IntKind.i64.wrap x = x := by
  obtain ⟨n, rfl⟩ := Int.eq_ofNat_of_zero_le h0
  exact (idx (n : Int) n rfl (by omega)).1
theorem aStr_add (a b : ByteArray) : aStr .add a b = if bsize a + bsize b ≤ 4611686018427387904 then some (.string (bcat a b)) else none := rfl
theorem aStr_eql (a b : ByteArray) : aStr .eql a b = some (.bool (beqB a b)) := rfl
theorem aStr_neq (a b : ByteArray) : aStr .neq a b = some (.bool (!beqB a b)) := rfl
theorem bsize_str (l : List UInt8) : bsize (str l) = l.length := rfl
theorem bcat_str (l : List UInt8) (s : ByteArray) : bcat (str l) s = str (l ++ s.data.toList) := rfl
theorem slice_str {get : Nat → Option Blk} (s : ByteArray) (h : Int) (h1 : 0 ≤ h) (h2 : h ≤ (bsize s : Nat)) :
    gSlice Tryz.prog get 9 (.string s) none (some (.int .i64 h)) = some (.string (bsub s 0 h.toNat)) := by
  unfold gSlice aBound
  simp only [Tryz.underlying9, if_pos (And.intro h1 h2)]
theorem aInt_add (k : IntKind) (a b : Int) : aInt .add k a b = some (.int k (k.wrap (a + b))) := rfl
theorem aInt_sub (k : IntKind) (a b : Int) : aInt .sub k a b = some (.int k (k.wrap (a - b))) := rfl
theorem aInt_mul (k : IntKind) (a b : Int) : aInt .mul k a b = some (.int k (k.wrap (a * b))) := rfl
theorem aInt_quo (k : IntKind) (a b : Int) : aInt .quo k a b = if b = 0 then none else some (.int k (k.wrap (a.tdiv b))) := rfl
theorem aInt_rem (k : IntKind) (a b : Int) : aInt .rem k a b = if b = 0 then none else some (.int k (a.tmod b)) := rfl
theorem aInt_and (k : IntKind) (a b : Int) : aInt .and k a b = some (.int k (bits .and k a b)) := rfl
theorem aInt_or (k : IntKind) (a b : Int) : aInt .or k a b = some (.int k (bits .or k a b)) := rfl
theorem aInt_xor (k : IntKind) (a b : Int) : aInt .xor k a b = some (.int k (bits .xor k a b)) := rfl
theorem aInt_eql (k : IntKind) (a b : Int) : aInt .eql k a b = some (.bool (a == b)) := rfl
theorem aInt_neq (k : IntKind) (a b : Int) : aInt .neq k a b = some (.bool (a != b)) := rfl
theorem aInt_lss (k : IntKind) (a b : Int) : aInt .lss k a b = some (.bool (decide (a < b))) := rfl
theorem aInt_leq (k : IntKind) (a b : Int) : aInt .leq k a b = some (.bool (decide (a ≤ b))) := rfl
theorem aInt_gtr (k : IntKind) (a b : Int) : aInt .gtr k a b = some (.bool (decide (a > b))) := rfl
theorem aInt_geq (k : IntKind) (a b : Int) : aInt .geq k a b = some (.bool (decide (a ≥ b))) := rfl
theorem new_int (x : Int) : nBuildSlice Tryz.prog 63 1 [(0, .int .i64 x)] = some (.cells false 1 [.int .i64 x]) :=
  new_one Tryz.underlying63 inf_int int_zero int_size rfl rfl rfl _ rfl rfl
theorem new_u8 (x : Int) : nBuildSlice Tryz.prog 76 1 [(0, .int .u8 x)] = some (.cells false 1 [.int .u8 x]) :=
  new_one Tryz.underlying76 inf_u8 u8_zero u8_size rfl rfl rfl _ rfl rfl
end Go.Proofs.YthcleiegefhmdaaGreatDoor.Abs
namespace Go.Proofs.YthcleiegefhmdaaGreatDoor.Abs
open Go Go.RowKit
section
variable {P : Program} {m : Mem} {B : Nat} {t : TypeId} {cs : List Value}
theorem ARep.inv_string (hu : P.underlying t = some .string) (h : ARep P m B t cs) : ∃ s, cs = [.string s] ∧ s.size ≤ B := by
  cases h <;> simp_all
def Rd (m : Mem) (n : Nat) (v : Value) (k : Nat) (cells : List Value) : Prop :=
  ∃ a cap, v = .slice a k cap ∧ cells.length = k * n ∧ k ≤ cap ∧ cap ≤ maxLen ∧ (a = none → cap = 0) ∧ ∀ p, a = some p → ∃ b, p = ⟨b, 0, none⟩ ∧ (k ≠ 0 → ∃ ro, m.get b = some (.cells ro n cells))
end
theorem Rd.len {m : Mem} {n k : Nat} {v : Value} {cells : List Value} (h : Rd m n v k cells) : ∃ a cap, v = .slice a k cap := by
  obtain ⟨a, cap, rfl, _⟩ := h; exact ⟨a, cap, rfl⟩
theorem Rd.at {m : Mem} {n k cap : Nat} {a : Option Addr} {cells : List Value} (h : Rd m n (.slice a k cap) k cells) (hk : 0 < k) : ∃ b ro, a = some ⟨b, 0, none⟩ ∧ m.get b = some (.cells ro n cells) := by
  obtain ⟨a', cap', e, _, h2, _, h3, h4⟩ := h
  cases e
  cases a with
  | none => have := h3 rfl; omega
  | some p =>
    obtain ⟨b, rfl, hb⟩ := h4 p rfl
    obtain ⟨ro, hg⟩ := hb (by omega)
    exact ⟨b, ro, rfl, hg⟩
theorem Rd.grow {m m' : Mem} {n k : Nat} {v : Value} {cells : List Value} (h : Rd m n v k cells) (hg : Grows m m') : Rd m' n v k cells := by
  obtain ⟨a, cap, rfl, h1, h2, h3, h4, h5⟩ := h
  refine ⟨a, cap, rfl, h1, h2, h3, h4, fun p hp => ?_⟩
  obtain ⟨b, rfl, hc⟩ := h5 p hp
  exact ⟨b, rfl, fun hk => by obtain ⟨ro, h⟩ := hc hk; exact ⟨ro, hg.2 _ _ h⟩⟩
theorem Sl.rd {m : Mem} {v : Value} {xs : List Value} (h : Sl m v xs) (hx : xs.length ≤ maxLen) : Rd m 1 v xs.length xs := by
  rcases h with ⟨rfl, rfl⟩ | ⟨g, rfl, hg⟩
  · exact ⟨none, 0, rfl, by simp, Nat.le_refl _, Nat.zero_le _, fun _ => rfl, fun p hp => by cases hp⟩
  · exact ⟨_, _, rfl, by simp, Nat.le_refl _, hx, (fun hp => by cases hp), fun p hp => by cases hp; exact ⟨g, rfl, fun _ => ⟨_, hg⟩⟩⟩
theorem flatMap_at {α : Type} (f : α → List Value) (n : Nat) : ∀ (xs : List α) (i : Nat) (x : α), (∀ x ∈ xs, (f x).length = n) → xs[i]? = some x → ((xs.flatMap f).drop (i * n)).take n = f x
  | [], i, x, _, h => by simp at h
  | y :: r, 0, x, hl, h => by
    simp at h; subst h
    rw [Nat.zero_mul, List.drop_zero, List.flatMap_cons, ← hl y (by simp), List.take_left']
    rfl
  | y :: r, i + 1, x, hl, h => by
    have := flatMap_at f n r i x (fun x hx => hl x (by simp [hx])) (by simpa using h)
    rw [List.flatMap_cons, Nat.add_mul, Nat.one_mul, List.drop_append, List.drop_eq_nil_of_le (by rw [hl y (by simp)]; omega), List.nil_append, hl y (by simp), Nat.add_sub_cancel]
    exact this
theorem flatMap_len {α : Type} (f : α → List Value) (n : Nat) : ∀ (xs : List α), (∀ x ∈ xs, (f x).length = n) → (xs.flatMap f).length = xs.length * n
  | [], _ => by simp
  | y :: r, hl => by
    rw [List.flatMap_cons, List.length_append, flatMap_len f n r (fun x hx => hl x (by simp [hx])), hl y (by simp), List.length_cons, Nat.add_mul]
    omega
theorem vrels_one {n : Nat → Prop} {ι : Nat → Loc} {a : Value} {ys : List Value} (h : VRels n ι [a] ys) : ∃ a', ys = [a'] ∧ VRel n ι a a' := by
  have hl := h.1
  match ys, hl with
  | [a'], _ => exact ⟨a', rfl, h.2 0 _ _ rfl rfl⟩
theorem vrels_two {n : Nat → Prop} {ι : Nat → Loc} {a b : Value} {ys : List Value} (h : VRels n ι [a, b] ys) : ∃ a' b', ys = [a', b'] ∧ VRel n ι a a' ∧ VRel n ι b b' := by
  have hl := h.1
  match ys, hl with
  | [a', b'], _ => exact ⟨a', b', rfl, h.2 0 _ _ rfl rfl, h.2 1 _ _ rfl rfl⟩
theorem args_one {P : Program} {m : Mem} {B : Nat} {t : TypeId} {ts : List TypeId} {vs : List Value} (h : ArgsOf P m B (t :: ts) vs) : ∃ v r, vs = v :: r ∧ ArgOf P m B t v ∧ ArgsOf P m B ts r := by
  cases h with
  | cons h hs => exact ⟨_, _, rfl, h, hs⟩
theorem args_nil {P : Program} {m : Mem} {B : Nat} {vs : List Value} (h : ArgsOf P m B [] vs) : vs = [] := by cases h; rfl
theorem arg_str {P : Program} {m : Mem} {B : Nat} {t : TypeId} {v : Value} (hu : P.underlying t = some .string) (h : ArgOf P m B t v) : ∃ s, v = .string s ∧ s.size ≤ B := by
  unfold ArgOf at h
  rw [hu] at h
  obtain ⟨s, e, hs⟩ := h.inv_string hu
  exact ⟨s, by simpa using e, hs⟩
end Go.Proofs.YthcleiegefhmdaaGreatDoor.Abs
namespace Go.Proofs.YthcleiegefhmdaaGreatDoor.Abs
open Go Go.RowKit
theorem nth_zero (o : Option (Option Blk)) (r : List (Option (Option Blk))) : nth (o :: r) 0 = o := rfl
theorem nth_succ (o : Option (Option Blk)) (r : List (Option (Option Blk))) (i : Nat) : nth (o :: r) (i + 1) = nth r i := rfl
theorem sig_local (K : Nat) (keep : List Nat) (i : Nat) : sig K keep (K + i) = match pos keep i with | some c => some (K + c) | none => none := by
  unfold sig
  rw [if_neg (by omega), show K + i - K = i by omega]
  all_goals (cases pos keep i <;> rfl)
theorem sig_old {K b : Nat} (keep : List Nat) (h : b < K) : sig K keep b = some b := by unfold sig; rw [if_pos h]
theorem Cl.agg {p : Nat → Prop} {cs : Array Value} (h : Cl p (.agg cs)) : ∀ v ∈ cs.toList, Cl p v := by
  obtain ⟨κ, u, h⟩ := h
  obtain ⟨ys, rfl, hl, hh⟩ := h.agg_inv
  intro v hv
  obtain ⟨i, hi, rfl⟩ := List.getElem_of_mem hv
  exact (hh i _ _ (List.getElem?_eq_getElem hi) (List.getElem?_eq_getElem (by rw [← hl]; exact hi))).cl
theorem Cl.tuple {p : Nat → Prop} {cs : Array Value} (h : Cl p (.tuple cs)) : ∀ v ∈ cs.toList, Cl p v := by
  obtain ⟨κ, u, h⟩ := h
  obtain ⟨ys, rfl, hl, hh⟩ := h.tuple_inv
  intro v hv
  obtain ⟨i, hi, rfl⟩ := List.getElem_of_mem hv
  exact (hh i _ _ (List.getElem?_eq_getElem hi) (List.getElem?_eq_getElem (by rw [← hl]; exact hi))).cl
def rowIn (n o : Nat) : Option Blk → Option Value
  | some (.cells _ _ cs) => if o + n ≤ cs.length then some (.agg ((cs.drop o).take n).toArray) else none
  | none => none
def cellIn (o : Nat) : Option Blk → Option Value
  | some (.cells _ _ cs) => cs[o]?
  | none => none
def putIn (n : Nat) (m : Mem) (b o : Nat) (vs : List Value) : Option Blk → Option Mem
  | some (.cells false s cs) => if vs.length = n ∧ o + vs.length ≤ cs.length ∧ oneAll vs = true then some (m.set b (some (.cells false s (setL cs o vs)))) else none
  | _ => none
section
variable {P : Program} {t : TypeId} {d : TypeDesc} {i : TypeInfo} {n : Nat}
theorem ld_row (hu : P.underlying t = some d) (hd : d.isRow = true) (hi : P.info? t = some i) (hs : i.size = n) (get : Nat → Option Blk) (b o : Nat) : gLoad P get t (.pointer (some ⟨b, o, none⟩)) = rowIn n o (get b) := by
  subst hs
  cases hb : get b with
  | none => simp only [gLoad, hb, rowIn]
  | some x => obtain ⟨ro, s, cs⟩ := x; simp only [gLoad, hb, rowIn, hu, hd, if_true, hi]
theorem ld_cell (hu : P.underlying t = some d) (hd : d.isRow = false) (get : Nat → Option Blk) (b o : Nat) : gLoad P get t (.pointer (some ⟨b, o, none⟩)) = cellIn o (get b) := by
  cases hb : get b with
  | none => simp only [gLoad, hb, cellIn]
  | some x => obtain ⟨ro, s, cs⟩ := x; simp only [gLoad, hb, cellIn, hu, hd, Bool.false_eq_true, if_false]
theorem st_any (hi : P.info? t = some i) (hs : i.size = n) (m : Mem) (b o : Nat) (v : Value) : aStore P m t (.pointer (some ⟨b, o, none⟩)) v = putIn n m b o v.cells.toList (m.get b) := by
  subst hs
  cases hb : m.get b with
  | none => simp only [aStore, hb, putIn]
  | some x => obtain ⟨ro, s, cs⟩ := x; cases ro <;> simp only [aStore, hb, putIn, hi]
end
theorem aLoad_g (P : Program) (m : Mem) (t : TypeId) (p : Value) : aLoad P m t p = gLoad P m.get t p := by
  unfold aLoad gLoad
  rfl
theorem Grows.ext (m : Mem) (l : List (Option (Option Blk))) : Grows m (ext m l) := ⟨by rw [ext_size]; omega, fun b x h => ext_get_old l h⟩
theorem g_tt : ((some true : Option Bool) == some true) = true := rfl
theorem g_tf : ((some true : Option Bool) == some false) = false := rfl
theorem g_ft : ((some false : Option Bool) == some true) = false := rfl
theorem g_ff : ((some false : Option Bool) == some false) = true := rfl
theorem aUn_not (b : Bool) : aUn .not (.bool b) = some (.bool !b) := rfl
theorem agg_cells (xs : Array Value) : (Value.agg xs).cells.toList = xs.toList := rfl
theorem row_struct (fs : Array Field) : (TypeDesc.struct fs).isRow = true := rfl
theorem row_array (k : Nat) (e : TypeId) : (TypeDesc.array k e).isRow = true := rfl
theorem rowIn_whole {n : Nat} {ro : Bool} {s : Nat} {cs : List Value} (h : cs.length = n) : rowIn n 0 (some (.cells ro s cs)) = some (.agg cs.toArray) := by
  subst h
  simp [rowIn]
theorem rowIn_at {α : Type} {n : Nat} {f : α → List Value} {xs : List α} (hl : ∀ x ∈ xs, (f x).length = n) {k : Nat} {x : α} (hx : xs[k]? = some x) (ro : Bool) (s : Nat) : rowIn n (k * n) (some (.cells ro s (xs.flatMap f))) = some (.agg (f x).toArray) := by
  have h1 := flatMap_len f n xs hl
  have h2 := (List.getElem?_eq_some_iff.1 hx).1
  have h3 := Nat.mul_le_mul_right n (show k + 1 ≤ xs.length by omega)
  rw [Nat.add_mul, Nat.one_mul] at h3
  unfold rowIn
  simp only
  rw [if_pos (by omega), flatMap_at f n xs k x hl hx]
theorem flatMap_get {α : Type} {n : Nat} {f : α → List Value} {xs : List α} (hl : ∀ x ∈ xs, (f x).length = n) {k : Nat} {x : α} (hx : xs[k]? = some x) {o : Nat} (ho : o < n) : (xs.flatMap f)[k * n + o]? = (f x)[o]? := by
  rw [← flatMap_at f n xs k x hl hx, List.getElem?_take, if_pos ho, List.getElem?_drop]
theorem putIn_whole {n : Nat} (m : Mem) (b : Nat) {s : Nat} {vs cs : List Value} (h1 : vs.length = n) (h2 : cs.length = n) (h3 : oneAll vs = true) : putIn n m b 0 vs (some (.cells false s cs)) = some (m.set b (some (.cells false s vs))) := by
  unfold putIn
  simp only
  rw [if_pos ⟨h1, by omega, h3⟩]
  congr 5
  apply List.ext_getElem?
  intro j
  rw [setL_get _ _ _ _ (by omega)]
  by_cases hj : j < vs.length
  · rw [if_pos (by omega), Nat.sub_zero]
  · rw [if_neg (by omega), List.getElem?_eq_none (by omega), List.getElem?_eq_none (by omega)]
theorem nBox_row {P : Program} (t : TypeId) {xs : Array Value} (h : oneAll xs.toList = true) : nBox P t (.agg xs) = some (.cells false (aStride P t) xs.toList) := by
  unfold nBox
  rw [agg_cells, if_pos h]
def zZ := And.intro (And.intro (And.intro (And.intro (And.intro (And.intro (And.intro (@alOf.eq_1) (And.intro @alOf.eq_2 @sOps.eq_1)) (And.intro (And.intro @sOpsB.eq_1 @sOpsB.eq_2) (And.intro @sOp.eq_1 @sOne.eq_1))) (And.intro (And.intro (And.intro @sHOne.eq_1 @sHOp.eq_1) (And.intro @sGuard.eq_1 @sWant.eq_1)) (And.intro (And.intro @sFun.eq_1 @sGuarded.eq_1) (And.intro @sGuarded.eq_2 @sGuarded.eq_3)))) (And.intro (And.intro (And.intro (@sGuardedV.eq_1) (And.intro @sGuardedV.eq_2 @sGuardedV.eq_3)) (And.intro (And.intro @isFn.eq_1 @isFn.eq_2) (And.intro @isVal.eq_1 @isVal.eq_2))) (And.intro (And.intro (And.intro @kind.eq_1 @kind.eq_2) (And.intro @kind.eq_3 @kind.eq_4)) (And.intro (And.intro @kind.eq_5 @kind.eq_6) (And.intro @kind.eq_7 @kind.eq_8))))) (And.intro (And.intro (And.intro (And.intro (@kindB.eq_1) (And.intro @kindB.eq_2 @kindC.eq_1)) (And.intro (And.intro @kindC.eq_2 @kindT.eq_1) (And.intro @kindT.eq_2 @withV_some))) (And.intro (And.intro (And.intro @withV_ite @sVal.eq_1) (And.intro @sVal.eq_2 @sVal.eq_3)) (And.intro (And.intro @sVal.eq_4 @sVal.eq_5) (And.intro @sVal.eq_6 @sVal.eq_7)))) (And.intro (And.intro (And.intro (@sVal.eq_8) (And.intro @sVal.eq_9 @sVal.eq_10)) (And.intro (And.intro @sVal.eq_11 @sVal.eq_12) (And.intro @sVal.eq_13 @sVal.eq_14))) (And.intro (And.intro (And.intro @sVal.eq_15 @sVal.eq_16) (And.intro @sVal.eq_17 @sVal.eq_18)) (And.intro (And.intro @sVal.eq_19 @sNew.eq_1) (And.intro @sNew.eq_2 @sNew.eq_3)))))) (And.intro (And.intro (And.intro (And.intro (And.intro (@sNew.eq_4) (And.intro @sNew.eq_5 @sMem.eq_1)) (And.intro (And.intro @sMem.eq_2 @sMem.eq_3) (And.intro @sMem.eq_4 @sArgs.eq_1))) (And.intro (And.intro (And.intro @sArgs.eq_2 @sParts.eq_1) (And.intro @sParts.eq_2 @sBin.eq_1)) (And.intro (And.intro @sBin.eq_2 @sConv.eq_1) (And.intro @sConv.eq_2 @sConv.eq_3)))) (And.intro (And.intro (And.intro (@sConv.eq_4) (And.intro @sConv_slice @vSlice.eq_1)) (And.intro (And.intro @vSlice.eq_2 @vSlice.eq_3) (And.intro @vSlice.eq_4 @vSlice.eq_5))) (And.intro (And.intro (And.intro @fOpt.eq_1 @fOpt.eq_2) (And.intro @vPick.eq_1 @vPick.eq_2)) (And.intro (And.intro @vPick.eq_3 @vLoad.eq_1) (And.intro @vLoad.eq_2 @vIndexAddr.eq_1))))) (And.intro (And.intro (And.intro (And.intro (@vIndexAddr.eq_2) (And.intro @vIndexAddr.eq_3 @vIndex.eq_1)) (And.intro (And.intro @vIndex.eq_2 @vIndex.eq_3) (And.intro @vExtract.eq_1 @vExtract.eq_2))) (And.intro (And.intro (And.intro @vUn.eq_1 @vUn.eq_2) (And.intro @aUn_not @Bool.not_true)) (And.intro (And.intro @Bool.not_false @sCallee.eq_1) (And.intro @sCallee.eq_2 @AL.look.eq_1)))) (And.intro (And.intro (And.intro (And.intro @AL.look.eq_2 @AL.look.eq_3) (And.intro @AL.look.eq_4 @AL.get.eq_1)) (And.intro (And.intro @AL.get.eq_2 @AL.keep_cons) (And.intro @AL.keep.eq_1 @AL.keep.eq_2))) (And.intro (And.intro (And.intro @flat.eq_1 @flat.eq_2) (And.intro @flat.eq_3 @flat.eq_4)) (And.intro (And.intro @flat.eq_5 @flat.eq_6) (And.intro @flat.eq_7 @flat.eq_8))))))) (And.intro (And.intro (And.intro (And.intro (And.intro (And.intro (@flat.eq_9) (And.intro @flat.eq_10 @flat.eq_11)) (And.intro (And.intro @flat.eq_12 @flat.eq_13) (And.intro @flat.eq_14 @flat.eq_15))) (And.intro (And.intro (And.intro @sPut.eq_1 @sPut.eq_2) (And.intro @isC.eq_1 @isC.eq_2)) (And.intro (And.intro @sThen.eq_1 @sThen.eq_2) (And.intro @sBlock.eq_1 @sBlock.eq_2)))) (And.intro (And.intro (And.intro (@cThen.eq_1) (And.intro @cThen.eq_2 @cBlock.eq_1)) (And.intro (And.intro @cBlock.eq_2 @sHead.eq_1) (And.intro @sHeadB.eq_1 @sHeadB.eq_2))) (And.intro (And.intro (And.intro @sEnd.eq_1 @sEnd.eq_2) (And.intro @sEnd.eq_3 @List.take_succ_cons.{0})) (And.intro (And.intro @List.take_zero.{0} @List.drop_succ_cons.{0}) (And.intro @List.drop_zero.{0} @aBin_ii))))) (And.intro (And.intro (And.intro (And.intro (@aBin_ss) (And.intro @aBinI.eq_1 @aBinI.eq_2)) (And.intro (And.intro @aBinI.eq_3 @aInt_add) (And.intro @aInt_sub @aInt_mul))) (And.intro (And.intro (And.intro @aInt_quo @aInt_rem) (And.intro @aInt_and @aInt_or)) (And.intro (And.intro @aInt_xor @aInt_eql) (And.intro @aInt_neq @aInt_lss)))) (And.intro (And.intro (And.intro (And.intro @aInt_leq @aInt_gtr) (And.intro @aInt_geq @aStr_add)) (And.intro (And.intro @aStr_eql @aStr_neq) (And.intro @Bool.false_eq_true @Bool.or_true))) (And.intro (And.intro (And.intro @Bool.or_false @Bool.true_or) (And.intro @if_true.{1} @if_false.{1})) (And.intro (And.intro @true_and @and_true) (And.intro @List.nil_append.{0} @List.append_nil.{0})))))) (And.intro (And.intro (And.intro (And.intro (And.intro (Tryz.underlying76) (And.intro Tryz.underlying5 Tryz.underlying3)) (And.intro (And.intro Tryz.underlying63 Tryz.underlying9) (And.intro @inf_u8 @inf_int))) (And.intro (And.intro (And.intro @inf_str @u8_size) (And.intro @int_size @Abs.str_size)) (And.intro (And.intro @aIndexAddr.eq_1 @aIndexAddr.eq_2) (And.intro @row_int @row_str)))) (And.intro (And.intro (And.intro (@Nat.mul_one) (And.intro @Nat.zero_add @aLen.eq_1)) (And.intro (And.intro @aLen.eq_2 @aLen.eq_3) (And.intro @vCall.eq_1 @vCall.eq_2))) (And.intro (And.intro (And.intro @vCall.eq_3 @vBuiltin.eq_1) (And.intro @vBuiltin.eq_2 @vBuiltin.eq_3)) (And.intro (And.intro @vBuiltin.eq_4 @vLen.eq_1) (And.intro @vLen.eq_2 @vLen.eq_3))))) (And.intro (And.intro (And.intro (And.intro (@new_int) (And.intro @new_u8 @Int.toNat_natCast)) (And.intro (And.intro @vFieldAddr.eq_1 @vFieldAddr.eq_2) (And.intro @vBuild.eq_1 @vBuild.eq_2))) (And.intro (And.intro (And.intro @vNil.eq_1 @vNil.eq_2) (And.intro @vNil.eq_3 @ext_size)) (And.intro (And.intro @ext_push @ext_set) (And.intro @ext_get @nth_zero)))) (And.intro (And.intro (And.intro (And.intro @nth_succ @List.length_cons.{0}) (And.intro @List.length_nil.{0} @List.cons_append.{0})) (And.intro (And.intro @List.set_cons_zero.{0} @List.set_cons_succ.{0}) (And.intro @cellIn.eq_1 @cellIn.eq_2))) (And.intro (And.intro (And.intro @Region.wanted.eq_1 @g_tt) (And.intro @g_tf @g_ft)) (And.intro (And.intro @g_ff @List.getElem?_cons_succ.{0}) (And.intro @List.getElem?_cons_zero.{0} @List.toList_toArray.{0})))))))
def zG := And.intro (And.intro (And.intro (And.intro (And.intro @GcM.eq_1 @GcB.eq_1) (And.intro (@gcOk.eq_1) (And.intro @fixB.eq_1 @fixB.eq_2))) (And.intro (And.intro @fixB.eq_3 @nodupB.eq_1) (And.intro (@nodupB.eq_2) (And.intro @renF.eq_1 @renF.eq_2)))) (And.intro (And.intro (And.intro @renMs.eq_1 @renMs.eq_2) (And.intro (@renB.eq_1) (And.intro @renB.eq_2 @renB.eq_3))) (And.intro (And.intro @renL.eq_1 @renL.eq_2) (And.intro (@ren.eq_1) (And.intro @ren.eq_2 @ren.eq_3))))) (And.intro (And.intro (And.intro (And.intro @ren.eq_4 @ren.eq_5) (And.intro (@ren.eq_6) (And.intro @ren.eq_7 @ren.eq_8))) (And.intro (And.intro @ren.eq_9 @ren.eq_10) (And.intro (@ren.eq_11) (And.intro @ren.eq_12 @ren.eq_13)))) (And.intro (And.intro (And.intro @ren.eq_14 @ren.eq_15) (And.intro (@ren.eq_16) (And.intro @ren.eq_17 @sig_local))) (And.intro (And.intro (@pos.eq_1) (And.intro @pos.eq_2 @bEnd.eq_1)) (And.intro (@bEnd.eq_2) (And.intro @bEnd.eq_3 @ToldB.eq_1)))))
end Go.Proofs.YthcleiegefhmdaaGreatDoor.Abs
namespace Go.Proofs.YthcleiegefhmdaaGreatDoor.Abs
open Go
structure Thin (m m' : Mem) : Prop where
  has : ∀ b, m.Has b → m'.Has b
  get : ∀ b ro s cs, m'.get b = some (.cells ro s cs) → ∃ r, m.get b = some (.cells r s cs) ∧ (r = true → ro = true)
theorem Thin.refl (m : Mem) : Thin m m := ⟨fun _ h => h, fun b ro s cs h => ⟨ro, h, fun h => h⟩⟩
theorem Thin.trans {m m' m'' : Mem} (h : Thin m m') (k : Thin m' m'') : Thin m m'' :=
  ⟨fun b hb => k.has b (h.has b hb), fun b ro s cs hb => by
    obtain ⟨r, h1, h2⟩ := k.get b ro s cs hb
    obtain ⟨r', h3, h4⟩ := h.get b r s cs h1
    exact ⟨r', h3, fun e => h2 (h4 e)⟩⟩
theorem Thin.own {m m' : Mem} (h : Thin m m') {b : Nat} (hb : m'.Own b) : m.Own b := by
  obtain ⟨s, cs, hb⟩ := hb
  obtain ⟨r, h1, h2⟩ := h.get b false s cs hb
  cases r with
  | false => exact ⟨s, cs, h1⟩
  | true => cases h2 rfl
theorem Thin.live {m m' : Mem} (h : Thin m m') {b : Nat} (hb : m'.get b ≠ none) : m.get b ≠ none := by
  cases hx : m'.get b with
  | none => exact absurd hx hb
  | some x =>
    obtain ⟨ro, s, cs⟩ := x
    obtain ⟨r, h1, _⟩ := h.get b ro s cs hx
    rw [h1]; simp
theorem Rel.thin {ι : Nat → Loc} {m m' : Mem} {w : World} (h : Rel ι m w) (k : Thin m m') : Rel ι m' w := by
  refine ⟨fun b ro s cs hb => ?_, fun b b' hb hb' hne => h.inj b b' (k.live hb) (k.own hb') hne, ⟨h.glob.known, fun b hb => h.glob.own b (k.own hb)⟩⟩
  obtain ⟨r, h1, h2⟩ := k.get b ro s cs hb
  obtain ⟨C, e, fz, g1, g2, g3, g4, g5, g6⟩ := h.at' b r s cs h1
  refine ⟨C, e, fz, g1, g2, g3, g4, fun i v hi => ?_, fun hro => g6 ?_⟩
  · obtain ⟨g7, v', g8, g9⟩ := g5 i v hi
    exact ⟨g7, v', g8, g9.mono k.has fun _ _ => rfl⟩
  · cases r with
    | false => rfl
    | true => rw [h2 rfl] at hro; cases hro
theorem Step.thin {ι₀ ι : Nat → Loc} {m₀ m m' : Mem} {w₀ w : World} (h : Step ι₀ m₀ w₀ ι m w) (k : Thin m m') : Step ι₀ m₀ w₀ ι m' w :=
  ⟨h.os, h.tape, h.output, h.size, fun b hb => k.has b (h.grows b hb), h.at_, h.block, fun b hb => h.own b (k.own hb)⟩
def fz1 (g : Nat) (m : Mem) : Mem := match m.get g with | some (.cells _ s cs) => m.set g (some (.cells true s cs)) | none => m
theorem fz1_thin (g : Nat) (m : Mem) : Thin m (fz1 g m) := by
  unfold fz1
  split
  · rename_i r s cs hg
    refine ⟨fun b hb => Mem.has_set _ hb, fun b ro s' cs' hb => ?_⟩
    by_cases e : g = b
    · subst e
      rw [Mem.get_set_same hg] at hb
      cases hb
      exact ⟨r, hg, fun _ => rfl⟩
    · rw [Mem.get_set_ne e] at hb
      exact ⟨ro, hb, fun h => h⟩
  · exact .refl m
theorem fz1_get {g : Nat} {m : Mem} {ro : Bool} {s : Nat} {cs : List Value} (h : m.get g = some (.cells ro s cs)) : (fz1 g m).get g = some (.cells true s cs) := by
  unfold fz1
  rw [h]
  exact Mem.get_set_same h _
theorem fz1_ne {g b : Nat} {m : Mem} (h : g ≠ b) : (fz1 g m).get b = m.get b := by
  unfold fz1
  split
  · exact Mem.get_set_ne h _
  · rfl
theorem Spec.thin {P : Program} {f : FuncId} {xs : List Value} {m : Mem} {R R' : Value → Mem → Prop} (h : Spec P f xs m R) (hr : ∀ v M, R v M → ∃ M', Thin M M' ∧ R' v M') : Spec P f xs m R' := by
  intro ι w ys hy hw
  refine (h ι w ys hy hw).mono ?_
  rintro e w' ⟨v, v', κ, M, h1, h2, h3, h4, h5⟩
  obtain ⟨M', k1, k2⟩ := hr v M h1
  exact ⟨v, v', κ, M', k2, h2, h3.mono k1.has fun _ _ => rfl, h4.thin k1, h5.thin k1⟩
def keepF (f : AL) : List Nat → Option AL
  | [] => some []
  | t :: r => match AL.get f t with
    | none => none
    | some v => match keepF f r with
      | none => none
      | some q => some ((t, v) :: q)
theorem keepF_get {f : AL} : ∀ {ts : List Nat} {q : AL}, keepF f ts = some q → ∀ (t : Nat) (v : Value), AL.get q t = some v → AL.get f t = some v
  | [], q, h, t, v, hv => by simp only [keepF, Option.some.injEq] at h; subst h; simp [AL.get] at hv
  | u :: r, q, h, t, v, hv => by
    simp only [keepF] at h
    split at h <;> first | (cases h; done) | skip
    rename_i x hx
    split at h <;> first | (cases h; done) | skip
    rename_i q' hq'
    cases h
    simp only [AL.get] at hv
    split at hv
    · rename_i e; subst e; cases hv; exact hx
    · exact keepF_get hq' t v hv
theorem Knows.keepF {n : Nat} {f f' : AL} {a : List Value} {ts : List Nat} (h : Knows n f a) (hk : keepF f ts = some f') : Knows n f' a := ⟨h.1, fun t v hv => h.2 t v (keepF_get hk t v hv)⟩
def JoinM (f : AL) (m : Mem) [J : Box (AL → Mem → Prop)] : Prop := ∃ slots, @withV _ (keepF f slots) ⟨fun f' => ∃ m', Thin m m' ∧ J.k f' m'⟩
section
variable {P : Program} {n k : Nat} {f : AL} {m : Mem} {Q : Exit → AL → Mem → Prop}
theorem CW_thin {c : Code} {m' : Mem} (ht : Thin m m') (h : @CW P n k ⟨c⟩ ⟨Q⟩ f m') : @CW P n k ⟨c⟩ ⟨Q⟩ f m :=
  fun a ha ι₀ m₀ w₀ ι act w h0 hs hA hr => h a ha ι₀ m₀ w₀ ι act w h0 (hs.thin ht) (hA.mono ht.has fun _ _ => rfl) (hr.thin ht)
theorem MW_loop {c : Code} (I : Nat → AL → Mem → Prop) (j₀ : Nat) (h₀ : @JoinM f m ⟨I j₀⟩)
    (round : ∀ j f m, I j f m → @CW P n k ⟨c⟩ ⟨@cThen ⟨fun f' m' => @JoinM f' m' ⟨fun f2 m2 => ∃ j', I j' f2 m2 ∧ j' < j⟩⟩ ⟨Q⟩⟩ f m) : @CW P n k ⟨.loop c⟩ ⟨Q⟩ f m := by
  intro a ha ι₀ m₀ w₀ ι act w h0 hs hA hr
  have run : ∀ j f m, I j f m → ∀ (a : List Value) (ι : Nat → Loc) (act : Act) (w : World), Knows n f a → Step ι₀ m₀ w₀ ι m w → ARel m.Has ι a act → Rel ι m w →
      Code.rounds P c (Post ι₀ m₀ w₀ fun e a' m' => ∃ f', Knows n f' a' ∧ Q e f' m') (j + 1) act w := by
    intro j
    induction j using Nat.strongRecOn with
    | _ j ih =>
      intro f m hI a ι act w ha hs hA hr
      refine wp_mono (round j f m hI a ha ι₀ m₀ w₀ ι act w h0 hs hA hr) ?_
      rintro e act2 w2 ⟨κ, a2, m2, ⟨f2, hf2, hq2⟩, ha2, hr2, hs2⟩
      cases e with
      | normal =>
        obtain ⟨slots, hq2⟩ := hq2
        obtain ⟨f3, hf3, m3, ht, j', hI', hlt⟩ := withV_spec hq2
        exact SW_loop.rounds_le (ih j' hlt f3 m3 hI' a2 κ act2 w2 (hf2.keepF hf3) (hs2.thin ht) (ha2.mono ht.has fun _ _ => rfl) (hr2.thin ht)) (by omega)
      | _ => exact ⟨κ, a2, m2, ⟨f2, hf2, hq2⟩, ha2, hr2, hs2⟩
  obtain ⟨slots, hq2⟩ := h₀
  obtain ⟨f3, hf3, m3, ht, hI'⟩ := withV_spec hq2
  exact wp_loop_rounds (j₀ + 1) (run j₀ f3 m3 hI' a ι act w (ha.keepF hf3) (hs.thin ht) (hA.mono ht.has fun _ _ => rfl) (hr.thin ht))
theorem MW_mid {x y : Code} (I : AL → Mem → Prop) (h : @CW P n k ⟨x⟩ ⟨@cThen ⟨fun f' m' => @JoinM f' m' ⟨I⟩⟩ ⟨Q⟩⟩ f m) (hy : ∀ f m, I f m → @CW P n k ⟨y⟩ ⟨Q⟩ f m) : @CW P n k ⟨.seq x y⟩ ⟨Q⟩ f m := by
  refine CW_seq (h.mono ?_)
  intro e f' m' hq
  cases e with
  | normal =>
    obtain ⟨slots, hq⟩ := hq
    obtain ⟨f3, hf3, m3, ht, hI⟩ := withV_spec hq
    intro a ha ι₀ m₀ w₀ ι act w h0 hs hA hr
    exact hy f3 m3 hI a (ha.keepF hf3) ι₀ m₀ w₀ ι act w h0 (hs.thin ht) (hA.mono ht.has fun _ _ => rfl) (hr.thin ht)
  | _ => exact hq
def mEnd (P : Program) (rs : List ResultVar) (R : Value → Mem → Prop) : Exit → AL → Mem → Prop
  | .ret, f, m => @withV _ (sAnswer P rs f m) ⟨fun v => ∃ m', Thin m m' ∧ R v m'⟩
  | .normal, f, m => @withV _ (sAnswer P rs f m) ⟨fun v => ∃ m', Thin m m' ∧ R v m'⟩
  | _, _, _ => False
theorem Spec.walkM {g : FuncId} {fn : Func} {c : Code} {xs : List Value} {R : Value → Mem → Prop} {m : Mem} (hf : P.funcs[g]? = some fn) (hb : fn.body = some c) (rs : Array ResultVar) (hr : fn.results = rs) (n : Nat) (hn : fn.ntmps = n) (hx : xs.length ≤ n)
    (h : Within m → (∀ x ∈ xs, Cl m.Has x) → ∀ k, @CW P n k ⟨c⟩ ⟨mEnd P rs.toList R⟩ (alOf 0 xs) m) : Spec P g xs m R := by
  intro ι w ys hys hrel
  have hcl : ∀ x ∈ xs, Cl m.Has x := by
    intro x hx
    obtain ⟨i, hi, rfl⟩ := List.getElem_of_mem hx
    exact (hys.2 i _ _ (List.getElem?_eq_getElem hi) (List.getElem?_eq_getElem (by rw [← hys.1]; exact hi))).cl
  have hw := hrel.within
  have hs : Spec P g xs m fun v M => ∃ M', Thin M M' ∧ R v M' := by
    refine Spec.walk hf hb rs hr n hn hx fun a ha ι₀ m₀ w₀ ι act w hs hA hr => ?_
    refine wp_mono (h hw hcl m₀.size a ha ι₀ m₀ w₀ ι act w (Nat.le_refl _) hs hA hr) ?_
    rintro e act' w' ⟨κ, a', m', ⟨f', h1, h2⟩, h3⟩
    refine ⟨κ, a', m', ⟨f', h1, ?_⟩, h3⟩
    cases e <;> exact h2
  exact (hs.thin fun v M h => h) ι w ys hys hrel
end
end Go.Proofs.YthcleiegefhmdaaGreatDoor.Abs
