/-
  The abstract machine over any memory and a few local blocks behind it; the local ones get new names at each joint.
  The abstract machine walked with unknowns: loops over some slots, memory that grows, facts of the program's types.
  Data that came in, read off the abstract memory; and slices there as the contracts of worlds want them.
  Walks over any memory with local blocks: what the steps come to.
  Walks in a memory that is written: no base that stays; what is known are blocks by number.
  Appends to local blocks.
  Loads, stores, addresses, new blocks of the types that manifests have.
  Stable sorting, plainly: what is sorted, and has each key's elements in their order, is one list alone.
  Rows of a block, put anew; stretches that change places.
  Stable sorting, plainly: block by block, and pass by pass.
  Sums within bounds; the lesser and the greater.
  The program's types in memory.
  What stays of a memory.
  What an operation leaves alone in memory.
  The walk of the library's insertion sort (of headers, by their IDs).
  Appends in any memory.
  Headers that are gathered, in memory.
  The walks of the library's swapRange and rotate (of headers).
-/
import Derived.Test.YtabffcplbjaklaaGreatDoorPart07
import Derived.Test.YtabffcplbjaklaaGreatDoorPart01
import Derived.Orders
set_option linter.unusedSimpArgs false
set_option linter.unusedVariables false
set_option linter.unusedSectionVars false
set_option linter.unnecessarySimpa false
set_option linter.defProp false
namespace Go.Proofs.YtabffcplbjaklaaGreatDoor.Abs
open Go Go.RowKit
def ext (b : Mem) (l : List (Option (Option Blk))) : Mem := ⟨b.blks ++ l⟩
def Within (m : Mem) : Prop := ∀ b x, m.get b = some x → ClBlk m.Has x
def sig (K : Nat) (keep : List Nat) (b : Nat) : Option Nat := if b < K then some b else match pos keep (b - K) with
  | some c => some (K + c)
  | none => none
theorem ext_nil (b : Mem) : ext b [] = b := by unfold ext; simp
theorem ext_size (b : Mem) (l : List (Option (Option Blk))) : (ext b l).size = b.size + l.length := by simp [ext, Mem.size]
theorem ext_at (b : Mem) (l : List (Option (Option Blk))) (i : Nat) : (ext b l).blks[b.size + i]? = l[i]? := by
  unfold ext Mem.size
  rw [List.getElem?_append, if_neg (by omega)]
  congr 1; omega
theorem ext_low {b : Mem} (l : List (Option (Option Blk))) {i : Nat} (h : i < b.size) : (ext b l).blks[i]? = b.blks[i]? := by
  unfold ext
  unfold Mem.size at h
  rw [List.getElem?_append, if_pos h]
theorem ext_has {b : Mem} (l : List (Option (Option Blk))) {i : Nat} (h : b.Has i) : (ext b l).Has i := by
  unfold Mem.Has
  rw [ext_low l (Mem.has_lt h)]
  exact h
theorem ext_get_low {b : Mem} (l : List (Option (Option Blk))) {i : Nat} (h : i < b.size) : (ext b l).get i = b.get i := by
  unfold Mem.get
  rw [ext_low l h]
theorem ext_get_old {b : Mem} (l : List (Option (Option Blk))) {i : Nat} {x : Blk} (h : b.get i = some x) : (ext b l).get i = some x := by rw [ext_get_low l (Mem.get_lt h)]; exact h
theorem ext_get (b : Mem) (l : List (Option (Option Blk))) (i : Nat) : (ext b l).get (b.size + i) = match nth l i with | some o => o | none => none := by
  unfold Mem.get nth
  rw [ext_at]
  cases l[i]? with
  | none => rfl
  | some o => cases o <;> rfl
theorem ext_push (b : Mem) (l : List (Option (Option Blk))) (x : Blk) : (ext b l).push x = ext b (l ++ [some (some x)]) := by unfold ext Mem.push; simp
theorem ext_set (b : Mem) (l : List (Option (Option Blk))) (i : Nat) (o : Option Blk) : (ext b l).set (b.size + i) o = ext b (l.set i (some o)) := by
  unfold ext Mem.set Mem.size
  rw [List.set_append_right _ _ (by omega)]
  congr 3; omega
section
variable {P : Program} {n k₀ : Nat} {f f' : AL} {b : Mem} {l : List (Option (Option Blk))}
theorem gcB_use {keep slots : List Nat} (hc : Within b) (hok : gcOk k₀ keep = true) (hf : renF (sig b.size keep) f slots = some f') {l' : List (Option (Option Blk))} (hm : renMs (sig b.size keep) l keep = some l')
    {ι₀ ι : Nat → Loc} {m₀ : Mem} {w₀ w : World} {a : List Value} {act : Act} (h0 : m₀.size ≤ b.size + k₀) (hs : Step ι₀ m₀ w₀ ι (ext b l) w) (hk : Knows n f a) (ha : ARel (ext b l).Has ι a act) (hr : Rel ι (ext b l) w) :
    ∃ κ a', Knows n f' a' ∧ ARel (ext b l').Has κ a' act ∧ Rel κ (ext b l') w ∧ Step ι₀ m₀ w₀ κ (ext b l') w := by
  simp only [gcOk, Bool.and_eq_true] at hok
  obtain ⟨hlen, hget⟩ := renMs_get hm
  have hfix := fixB_spec hok.1
  have hnd := nodupB_spec hok.2
  obtain ⟨κ, hκ⟩ : ∃ κ : Nat → Loc, κ = fun c => if c < b.size then ι c else ι (b.size + keep.getD (c - b.size) 0) := ⟨_, rfl⟩
  have klow : ∀ c, c < b.size → κ c = ι c := fun c h => by rw [hκ]; exact if_pos h
  have kap : ∀ c d, keep[c]? = some d → κ (b.size + c) = ι (b.size + d) := fun c d h => by
    rw [hκ]
    simp only
    rw [if_neg (by omega), show b.size + c - b.size = c by omega]
    simp [List.getD, h]
  have inn : ∀ c, c < l'.length → ∃ d x, keep[c]? = some d ∧ l'[c]? = some x ∧ renB (sig b.size keep) (nth l d) = some x := fun c hc =>
    ⟨keep[c]'(by omega), l'[c], List.getElem?_eq_getElem (by omega), List.getElem?_eq_getElem hc, hget c _ _ (List.getElem?_eq_getElem (by omega)) (List.getElem?_eq_getElem hc)⟩
  have lhas : ∀ d o, nth l d = some o → (ext b l).Has (b.size + d) := fun d o h => by
    unfold nth at h
    split at h <;> first | (cases h; done) | skip
    rename_i q hq
    subst h
    exact ⟨_, by rw [ext_at]; exact hq⟩
  have hhas : ∀ c d, keep[c]? = some d → (ext b l').Has (b.size + c) ∧ (ext b l).Has (b.size + d) := fun c d hc => by
    have hc' : c < l'.length := by rw [hlen]; exact (List.getElem?_eq_some_iff.1 hc).1
    obtain ⟨d', x, h1, h2, h3⟩ := inn c hc'
    rw [hc] at h1; cases h1
    rcases renB_some h3 with ⟨h4, rfl⟩ | ⟨ro, s, cs, q, h4, rfl, h5⟩
    · exact ⟨⟨_, by rw [ext_at]; exact h2⟩, lhas d _ h4⟩
    · exact ⟨⟨_, by rw [ext_at]; exact h2⟩, lhas d _ h4⟩
  have hblk : ∀ c ro s cs', b.size ≤ c → (ext b l').get c = some (.cells ro s cs') → ∃ d cs, keep[c - b.size]? = some d ∧ (ext b l).get (b.size + d) = some (.cells ro s cs) ∧ renL (ren (sig b.size keep) 4) cs = some cs' := fun c ro s cs' hge hc => by
    have h0 := Mem.get_some hc
    have e : c = b.size + (c - b.size) := by omega
    rw [e, ext_at] at h0
    obtain ⟨d, x, h1, h2, h3⟩ := inn (c - b.size) (List.getElem?_eq_some_iff.1 h0).1
    rw [h0] at h2
    cases h2
    rcases renB_some h3 with ⟨_, h⟩ | ⟨ro', s', cs, q, h4, h5, h6⟩
    · cases h
    · cases h5
      refine ⟨d, cs, h1, ?_, h6⟩
      rw [ext_get, h4]
  have hrow : ∀ c y, b.size ≤ c → (ext b l').get c = some y → ∃ ro s cs, y = .cells ro s cs := fun c y hge hc => by
    have h0 := Mem.get_some hc
    have e : c = b.size + (c - b.size) := by omega
    rw [e, ext_at] at h0
    obtain ⟨d, x, h1, h2, h3⟩ := inn (c - b.size) (List.getElem?_eq_some_iff.1 h0).1
    rw [h0] at h2
    cases h2
    rcases renB_some h3 with ⟨_, h⟩ | ⟨ro', s', cs, q, h4, h5, h6⟩
    · cases h
    · cases h5; exact ⟨_, _, _, rfl⟩
  have hσ : ∀ x c, (ext b l).Has x → sig b.size keep x = some c → (ext b l').Has c ∧ κ c = ι x := fun x c hx h => by
    unfold sig at h
    split at h
    · rename_i hlt
      cases h
      refine ⟨?_, klow _ hlt⟩
      unfold Mem.Has at hx ⊢
      rw [ext_low _ hlt] at hx ⊢
      exact hx
    · rename_i hge
      split at h <;> first | (cases h; done) | skip
      rename_i c' hc'
      cases h
      have h1 := pos_spec hc'
      refine ⟨(hhas c' _ h1).1, ?_⟩
      rw [kap c' _ h1]
      congr 1; omega
  have hbase : ∀ v u, Cl b.Has v → VRel (ext b l).Has ι v u → VRel (ext b l').Has κ v u := fun v u hv hr =>
    (hv.rel hr).mono (fun x hx => ext_has l' hx) fun x hx => klow x (Mem.has_lt hx)
  have hown : ∀ c, (ext b l').Own c → ∃ d, κ c = ι d ∧ (ext b l).Own d ∧ ((c < b.size ∧ d = c) ∨ (b.size ≤ c ∧ ∃ j, keep[c - b.size]? = some j ∧ d = b.size + j)) := fun c ⟨y, h, hy⟩ => by
    by_cases hlt : c < b.size
    · refine ⟨c, klow c hlt, ⟨y, ?_, hy⟩, .inl ⟨hlt, rfl⟩⟩
      rw [ext_get_low _ hlt] at h ⊢
      exact h
    · obtain ⟨ro, s, cs, rfl⟩ := hrow c y (by omega) h
      obtain ⟨d, cs0, h1, h2, _⟩ := hblk c _ _ _ (by omega) h
      refine ⟨b.size + d, ?_, ⟨_, h2, hy⟩, .inr ⟨by omega, d, h1, rfl⟩⟩
      rw [← kap _ d h1]; congr 1; omega
  refine ⟨κ, ?_⟩
  -- the frame
  have hfr : ∃ a', Knows n f' a' ∧ ARel (ext b l').Has κ a' act := by
    have each : ∀ i : Fin a.length, ∃ x', VRel (ext b l').Has κ x' (act.tmps.toList.getD i undef) ∧ ∀ v', AL.get f' i = some v' → x' = v' := fun i => by
      have hy : act.tmps.toList[i.1]? = some (act.tmps.toList[i.1]'(by rw [← ha.tmps.1]; exact i.2)) := List.getElem?_eq_getElem _
      have hx := List.getElem?_eq_getElem i.2
      have hxy := ha.tmps.2 i.1 _ _ hx hy
      have e : act.tmps.toList.getD i undef = act.tmps.toList[i.1]'(by rw [← ha.tmps.1]; exact i.2) := by simp [List.getD, hy]
      rw [e]
      cases hv : AL.get f' i.1 with
      | none => obtain ⟨x', h⟩ := some_rel (n' := (ext b l').Has) (κ := κ) hxy; exact ⟨x', h, fun v' h => by cases h⟩
      | some v' =>
        obtain ⟨u, hu, hu'⟩ := renF_get hf i.1 v' hv
        have := hk.2 i.1 u hu
        rw [hx] at this
        cases this
        exact ⟨v', ren_rel hσ 4 _ _ _ hu' hxy, fun v'' h => by cases h; rfl⟩
    refine ⟨List.ofFn fun i => (each i).choose, ⟨by simp [hk.1], fun t v hv => ?_⟩, ha.defers, by simp [ha.tmps.1], fun i x y hx hy => ?_⟩
    · have ht : t < a.length := by
        obtain ⟨u, hu, _⟩ := renF_get hf t v hv
        exact (List.getElem?_eq_some_iff.1 (hk.2 t u hu)).1
      rw [List.getElem?_ofFn, dif_pos ht]
      exact congrArg some ((each ⟨t, ht⟩).choose_spec.2 v hv)
    · have hi : i < a.length := by
        have := (List.getElem?_eq_some_iff.1 hx).1
        simpa using this
      rw [List.getElem?_ofFn, dif_pos hi] at hx
      cases hx
      have h1 := (each ⟨i, hi⟩).choose_spec.1
      have e : act.tmps.toList.getD i undef = y := by simp only [List.getD, hy, Option.getD_some]
      exact Eq.subst (motive := fun z => VRel (ext b l').Has κ (each ⟨i, hi⟩).choose z) e h1
  obtain ⟨a', h1, h2⟩ := hfr
  have mhas : ∀ c, m₀.Has c → (ext b l').Has c ∧ κ c = ι c := fun c hc0 => by
    have hlt0 : c < b.size + k₀ := Nat.lt_of_lt_of_le (Mem.has_lt hc0) h0
    by_cases hlt : c < b.size
    · refine ⟨?_, klow c hlt⟩
      have := hs.grows c hc0
      unfold Mem.Has at this ⊢
      rw [ext_low _ hlt] at this ⊢
      exact this
    · have := hfix (c - b.size) (by omega)
      rw [Nat.zero_add] at this
      have h3 := (hhas _ _ this).1
      have h4 := kap _ _ this
      have e : b.size + (c - b.size) = c := by omega
      rw [e] at h3 h4
      exact ⟨h3, h4⟩
  refine ⟨a', h1, h2, ⟨fun c ro s cs' hcg => ?_, fun c x hcg => ?_, fun c c' hc1 hc' hne => ?_, ⟨hr.glob.known, fun c hc => by obtain ⟨d, hd, ho, _⟩ := hown c hc; rw [hd]; exact hr.glob.own d ho⟩⟩, ⟨hs.os, hs.tape, hs.output, hs.size, fun c hcm => (mhas c hcm).1, fun c hcm => ?_, hs.block, fun c hcm => ?_⟩⟩
  · by_cases hlt : c < b.size
    · rw [ext_get_low _ hlt] at hcg
      obtain ⟨C, e, fz, g1, g2, g3, g4, g5, g6⟩ := hr.at' c ro s cs' (ext_get_old l hcg)
      rw [klow c hlt]
      refine ⟨C, e, fz, g1, g2, g3, g4, fun i v hi => ?_, g6⟩
      obtain ⟨g7, u, g8, g9⟩ := g5 i v hi
      exact ⟨g7, u, g8, hbase v u (hc c _ hcg v (List.mem_of_getElem? hi)) g9⟩
    · obtain ⟨d, cs, hd, hg, hcs⟩ := hblk c ro s cs' (by omega) hcg
      obtain ⟨C, e, fz, g1, g2, g3, g4, g5, g6⟩ := hr.at' _ ro s cs hg
      obtain ⟨e1, e2⟩ := renL_spec hcs
      have hkc : κ c = ι (b.size + d) := by rw [← kap _ d hd]; congr 1; omega
      rw [hkc]
      refine ⟨C, e, fz, g1, g2, by rw [← e1]; exact g3, by rw [← e1]; exact g4, fun i v' hi => ?_, g6⟩
      have hi' : i < cs.length := by rw [e1]; exact (List.getElem?_eq_some_iff.1 hi).1
      have hx := List.getElem?_eq_getElem hi'
      obtain ⟨g7, u, g8, g9⟩ := g5 i _ hx
      have hren := e2 i _ v' hx hi
      exact ⟨by rw [ren_one hren]; exact g7, u, g8, ren_rel hσ 4 _ _ _ hren g9⟩
  · by_cases hlt : c < b.size
    · rw [ext_get_low _ hlt] at hcg
      have h1 := hr.oth c x (ext_get_old l hcg)
      rw [klow c hlt]
      cases x with
      | cells => trivial
      | kv => exact h1
      | raw => exact h1
      | it ro d s seen la =>
        have hd : b.Has d := hc c _ hcg
        exact ⟨by rw [klow d (Mem.has_lt hd)]; exact h1.1, h1.2.1, ext_has l' hd⟩
    · obtain ⟨ro, s, cs, rfl⟩ := hrow c x (by omega) hcg
      trivial
  · obtain ⟨d', hd', ho, hcase'⟩ := hown c' hc'
    have : ∃ d, κ c = ι d ∧ (ext b l).get d ≠ none ∧ ((c < b.size ∧ d = c) ∨ (b.size ≤ c ∧ ∃ j, keep[c - b.size]? = some j ∧ d = b.size + j)) := by
      cases hx : (ext b l').get c with
      | none => exact absurd hx hc1
      | some x =>
        by_cases hlt : c < b.size
        · refine ⟨c, klow c hlt, ?_, .inl ⟨hlt, rfl⟩⟩
          rw [ext_get_low _ hlt] at hx ⊢
          rw [hx]; simp
        · obtain ⟨ro, s, cs, rfl⟩ := hrow c x (by omega) hx
          obtain ⟨d, cs0, h3, h4, _⟩ := hblk c ro s cs (by omega) hx
          refine ⟨b.size + d, ?_, by rw [h4]; simp, .inr ⟨by omega, d, h3, rfl⟩⟩
          rw [← kap _ d h3]; congr 1; omega
    obtain ⟨d, hd, hdn, hcase⟩ := this
    rw [hd, hd']
    refine hr.inj d d' hdn ho fun e => hne ?_
    rcases hcase with ⟨h3, rfl⟩ | ⟨h3, j, h4, rfl⟩ <;> rcases hcase' with ⟨h5, rfl⟩ | ⟨h5, j', h6, rfl⟩
    · exact e
    · omega
    · omega
    · have hj : j = j' := by omega
      subst hj
      have := hnd _ _ j h4 h6
      omega
  · rw [(mhas c hcm).2]
    exact hs.at_ c hcm
  · obtain ⟨d, hd, ho, _⟩ := hown c hcm
    rw [hd]
    exact hs.own d ho
def GcB (b : Mem) (k₀ : Nat) (keep slots : List Nat) (f : AL) (l : List (Option (Option Blk))) [J : Box (AL → List (Option (Option Blk)) → Prop)] : Prop :=
  gcOk k₀ keep = true ∧ @withV _ (renF (sig b.size keep) f slots) ⟨fun f' => @withV _ (renMs (sig b.size keep) l keep) ⟨fun l' => J.k f' l'⟩⟩
def GcM (b : Mem) (k₀ : Nat) (f : AL) (m : Mem) [J : Box (AL → List (Option (Option Blk)) → Prop)] : Prop := ∃ l, m = ext b l ∧ ∃ keep slots, @GcB b k₀ keep slots f l J
variable {Q : Exit → AL → Mem → Prop}
theorem BW.gc {c : Code} (hc : Within b) (keep slots : List Nat) (h : @GcB b k₀ keep slots f l ⟨fun f' l' => @CW P n (b.size + k₀) ⟨c⟩ ⟨Q⟩ f' (ext b l')⟩) : @CW P n (b.size + k₀) ⟨c⟩ ⟨Q⟩ f (ext b l) := by
  obtain ⟨hok, h⟩ := h
  obtain ⟨f', hf, h⟩ := withV_spec h
  obtain ⟨l', hm, h⟩ := withV_spec h
  intro a ha ι₀ m₀ w₀ ι act w h0 hs hA hr
  obtain ⟨κ, a', h1, h2, h3, h4⟩ := gcB_use hc hok hf hm h0 hs ha hA hr
  exact h a' h1 ι₀ m₀ w₀ κ act w h0 h4 h2 h3
theorem BW_loop {c : Code} (hc : Within b) (I : Nat → AL → List (Option (Option Blk)) → Prop) (j₀ : Nat) (h₀ : @GcM b k₀ f (ext b l) ⟨I j₀⟩)
    (round : ∀ j f l, I j f l → @CW P n (b.size + k₀) ⟨c⟩ ⟨@cThen ⟨fun f' m' => @GcM b k₀ f' m' ⟨fun f2 l2 => ∃ j', I j' f2 l2 ∧ j' < j⟩⟩ ⟨Q⟩⟩ f (ext b l)) : @CW P n (b.size + k₀) ⟨.loop c⟩ ⟨Q⟩ f (ext b l) := by
  intro a ha ι₀ m₀ w₀ ι act w h0 hs hA hr
  have run : ∀ j f l, I j f l → ∀ (a : List Value) (ι : Nat → Loc) (act : Act) (w : World), Knows n f a → Step ι₀ m₀ w₀ ι (ext b l) w → ARel (ext b l).Has ι a act → Rel ι (ext b l) w →
      Code.rounds P c (Post ι₀ m₀ w₀ fun e a' m' => ∃ f', Knows n f' a' ∧ Q e f' m') (j + 1) act w := by
    intro j
    induction j using Nat.strongRecOn with
    | _ j ih =>
      intro f l hI a ι act w ha hs hA hr
      refine wp_mono (round j f l hI a ha ι₀ m₀ w₀ ι act w h0 hs hA hr) ?_
      rintro e act2 w2 ⟨κ, a2, m2, ⟨f2, hf2, hq2⟩, ha2, hr2, hs2⟩
      cases e with
      | normal =>
        obtain ⟨l2, rfl, keep, slots, hok, hq2⟩ := hq2
        obtain ⟨f3, hf3, hq3⟩ := withV_spec hq2
        obtain ⟨l3, hm3, j', hI', hlt⟩ := withV_spec hq3
        obtain ⟨μ, a3, k1, k2, k3, k4⟩ := gcB_use hc hok hf3 hm3 h0 hs2 hf2 ha2 hr2
        exact SW_loop.rounds_le (ih j' hlt f3 l3 hI' a3 μ act2 w2 k1 k4 k2 k3) (by omega)
      | _ => exact ⟨κ, a2, m2, ⟨f2, hf2, hq2⟩, ha2, hr2, hs2⟩
  obtain ⟨l1, e1, keep, slots, hok, hq2⟩ := h₀
  have e1 : l = l1 := by
    unfold ext at e1
    simpa using e1
  subst e1
  obtain ⟨f3, hf3, hq3⟩ := withV_spec hq2
  obtain ⟨l3, hm3, hI'⟩ := withV_spec hq3
  obtain ⟨μ, a3, k1, k2, k3, k4⟩ := gcB_use hc hok hf3 hm3 h0 hs ha hA hr
  exact wp_loop_rounds (j₀ + 1) (run j₀ f3 l3 hI' a3 μ act w k1 k4 k2 k3)
theorem BW_mid {x y : Code} {m : Mem} (hc : Within b) (I : AL → List (Option (Option Blk)) → Prop) (h : @CW P n (b.size + k₀) ⟨x⟩ ⟨@cThen ⟨fun f' m' => @GcM b k₀ f' m' ⟨I⟩⟩ ⟨Q⟩⟩ f m) (hy : ∀ f l, I f l → @CW P n (b.size + k₀) ⟨y⟩ ⟨Q⟩ f (ext b l)) : @CW P n (b.size + k₀) ⟨.seq x y⟩ ⟨Q⟩ f m := by
  refine CW_seq (h.mono ?_)
  intro e f' m' hq
  cases e with
  | normal =>
    obtain ⟨l, rfl, keep, slots, hq⟩ := hq
    refine BW.gc hc keep slots ⟨hq.1, ?_⟩
    obtain ⟨f2, h1, h2⟩ := withV_spec hq.2
    obtain ⟨l, h3, h4⟩ := withV_spec h2
    rw [h1, withV_some, h3, withV_some]
    exact hy _ _ h4
  | _ => exact hq
def ToldB (b : Mem) (k₀ : Nat) (v : Value) (m : Mem) (R : Value → Mem → Prop) : Prop := ∃ l, m = ext b l ∧ ∃ keep, gcOk k₀ keep = true ∧ @withV _ (ren (sig b.size keep) 4 v) ⟨fun u => @withV _ (renMs (sig b.size keep) l keep) ⟨fun l' => R u (ext b l')⟩⟩
def bEnd (P : Program) (rs : List ResultVar) (b : Mem) (k₀ : Nat) (R : Value → Mem → Prop) : Exit → AL → Mem → Prop
  | .ret, f, m => @withV _ (sAnswer P rs f m) ⟨fun v => ToldB b k₀ v m R⟩
  | .normal, f, m => @withV _ (sAnswer P rs f m) ⟨fun v => ToldB b k₀ v m R⟩
  | _, _, _ => False
theorem toldB_use {v : Value} {m : Mem} {R : Value → Mem → Prop} (hc : Within b) (h : ToldB b k₀ v m R) {ι₀ ι : Nat → Loc} {m₀ : Mem} {w₀ w : World} {u : Value} (h0 : m₀.size ≤ b.size + k₀) (hs : Step ι₀ m₀ w₀ ι m w) (hv : VRel m.Has ι v u) (hr : Rel ι m w) :
    ∃ v' κ m', R v' m' ∧ VRel m'.Has κ v' u ∧ Rel κ m' w ∧ Step ι₀ m₀ w₀ κ m' w := by
  obtain ⟨l, rfl, keep, hok, h⟩ := h
  obtain ⟨v', hv', h⟩ := withV_spec h
  obtain ⟨l', hm, h⟩ := withV_spec h
  let act : Act := { tmps := #[u], defers := [] }
  obtain ⟨κ, a', h1, h2, h3, h4⟩ := gcB_use (n := 1) (f := [(0, v)]) (f' := [(0, v')]) (keep := keep) (slots := [0]) (a := [v]) (act := act) hc hok (by simp only [renF, AL.get, if_true, hv']) hm h0 hs
    ⟨rfl, fun t x hx => by simp only [AL.get] at hx; split at hx <;> first | (cases hx; done) | skip
                           rename_i e; subst e; cases hx; rfl⟩ ⟨rfl, .cons hv .nil⟩ hr
  refine ⟨v', κ, _, h, ?_, h3, h4⟩
  exact h2.tmps.2 0 v' u (h1.2 0 v' rfl) rfl
theorem Rel.within {m : Mem} {ι : Nat → Loc} {w : World} (h : Rel ι m w) : Within m := h.clBlk
theorem Spec.walkB {f : FuncId} {fn : Func} {c : Code} {xs : List Value} {R : Value → Mem → Prop} {m : Mem} (hf : P.funcs[f]? = some fn) (hb : fn.body = some c) (rs : Array ResultVar) (hr : fn.results = rs) (n : Nat) (hn : fn.ntmps = n) (hx : xs.length ≤ n)
    (b : Mem) (l : List (Option (Option Blk))) (hm : m = ext b l) (k₀ : Nat) (hk : l.length = k₀) (hcl : (l = [] ∨ Within b))
    (h : Within b → (l = [] → ∀ x ∈ xs, Cl b.Has x) → @CW P n (b.size + k₀) ⟨c⟩ ⟨bEnd P rs.toList b k₀ R⟩ (alOf 0 xs) (ext b l)) : Spec P f xs m R := by
  subst hr; subst hn; subst hk; subst hm
  intro ι w ys hys hrel
  have hclosed : Within b := by
    rcases hcl with rfl | h
    · rw [ext_nil] at hrel; exact hrel.within
    · exact h
  have hargs : l = [] → ∀ x ∈ xs, Cl b.Has x := by
    rintro rfl x hx
    rw [ext_nil] at hys
    obtain ⟨i, hi, rfl⟩ := List.getElem_of_mem hx
    exact (hys.2 i _ _ (List.getElem?_eq_getElem hi) (List.getElem?_eq_getElem (by rw [← hys.1]; exact hi))).cl
  have hkn : Knows fn.ntmps (alOf 0 xs) (aFrame fn xs) := ⟨by simp [aFrame]; omega, fun t v hv => by
    obtain ⟨_, h2⟩ := alOf_get xs 0 t v hv
    unfold aFrame
    rw [List.getElem?_append, if_pos]
    · exact h2
    · exact (List.getElem?_eq_some_iff.1 h2).1⟩
  refine calls_of_wp hf hb (wp_mono (h hclosed hargs (aFrame fn xs) hkn ι (ext b l) w ι _ w (by rw [ext_size]; exact Nat.le_refl _) (Step.refl _ _ _) ⟨rfl, ?_⟩ hrel) ?_)
  · simp only [Array.toList_append, Array.toList_replicate, List.size_toArray]
    rw [← hys.1]
    unfold aFrame
    refine VRels.append hys ⟨rfl, fun i x y hx hy => ?_⟩
    rw [hx] at hy
    cases hy
    have := List.mem_of_getElem? hx
    rw [List.mem_replicate] at this
    rw [this.2]
    exact undef_rel
  · rintro e act' w' ⟨κ, a', m', ⟨f', hf', hq⟩, ha, hr', hs⟩
    have key : ∀ v, sAnswer P fn.results.toList f' m' = some v → ∃ v', (results fn act'.tmps).run P w' = .ok v' w' ∧ VRel m'.Has κ v v' := by
      intro v hv
      have hv : aAnswer P fn.results.toList a' m' = some v := by
        unfold sAnswer at hv
        unfold aAnswer
        split at hv <;> first | (cases hv; done) | skip
        · rename_i v0 hv0; cases hv; simp only [sRes_spec hf' _ _ hv0]
        · rename_i l hne hl
          cases hv
          simp only [sRes_spec hf' _ _ hl]
      unfold aAnswer at hv
      have arr : ∀ (us : List Value), (fn.results.toList.mapM (resSem act'.tmps)).run P w' = .ok us w' → (results fn act'.tmps).run P w' = .ok (if hh : us.toArray.size = 1 then us.toArray[0] else .tuple us.toArray) w' := by
        intro us hus
        rw [results_eq, Sem.run_bind, Array.mapM_eq_mapM_toList, Sem.run_map, hus]
        rfl
      split at hv <;> first | (cases hv; done) | skip
      · rename_i v0 hl
        cases hv
        obtain ⟨us, h1, h2⟩ := aResults_run ha hr' _ _ hl
        obtain ⟨u, rfl, hu⟩ := h2.one'
        exact ⟨u, by rw [arr _ h1]; simp, hu⟩
      · rename_i l hne hl
        cases hv
        obtain ⟨us, h1, h2⟩ := aResults_run ha hr' _ _ hl
        refine ⟨.tuple us.toArray, ?_, .tuples (by simpa using h2)⟩
        rw [arr _ h1, dif_neg]
        intro hh
        have hlen : l.length = 1 := by rw [h2.1]; simpa using hh
        match l, hlen with
        | [x], _ => exact hne x rfl
    cases e <;> simp only [bEnd] at hq <;> first | exact hq.elim | skip
    all_goals
      obtain ⟨v, hv, ht⟩ := withV_spec hq
      obtain ⟨v', h1, h2⟩ := key v hv
      obtain ⟨v2, μ, m2, k1, k2, k3, k4⟩ := toldB_use hclosed ht (by rw [ext_size]; exact Nat.le_refl _) hs h2 hr'
      exact ⟨ha.defers, v', h1, v2, v', μ, m2, k1, rfl, k2, k3, k4⟩
end
end Go.Proofs.YtabffcplbjaklaaGreatDoor.Abs
namespace Go.Proofs.YtabffcplbjaklaaGreatDoor.Abs
open Go Go.RowKit
def AL.keep (f : AL) : List Nat → AL
  | [] => []
  | t :: r => match AL.get f t with
    | some v => (t, v) :: AL.keep f r
    | none => AL.keep f r
theorem AL.keep_cons (f : AL) (t : Nat) (r : List Nat) (v : Value) (h : AL.get f t = some v) : AL.keep f (t :: r) = (t, v) :: AL.keep f r := by
  unfold AL.keep
  rw [h]
  cases r <;> rfl
section
variable {P : Program} {n : Nat} {Q : Exit → AL → Mem → Prop} {f : AL} {m : Mem}
end
def Grows (m m' : Mem) : Prop := m.size ≤ m'.size ∧ ∀ b x, m.get b = some x → m'.get b = some x
theorem Grows.refl (m : Mem) : Grows m m := ⟨Nat.le_refl _, fun _ _ h => h⟩
theorem Grows.trans {m m' m'' : Mem} (h : Grows m m') (k : Grows m' m'') : Grows m m'' := ⟨Nat.le_trans h.1 k.1, fun b x hb => k.2 b x (h.2 b x hb)⟩
theorem Grows.push {m m' : Mem} (h : Grows m m') (x : Blk) : Grows m (m'.push x) :=
  ⟨by simp only [Mem.size_push]; have := h.1; omega, fun b y hb => by
    have h1 := h.2 b y hb
    rw [Mem.get_push_old (Mem.get_lt h1)]; exact h1⟩
theorem Grows.set {m m' : Mem} (h : Grows m m') {g : Nat} (hg : m.size ≤ g) (o : Option Blk) : Grows m (m'.set g o) :=
  ⟨by simp only [Mem.size_set]; exact h.1, fun b y hb => by
    have := Mem.get_lt hb
    rw [Mem.get_set_ne (by omega)]; exact h.2 b y hb⟩
theorem hmix : Tryz.prog.follows .mixedOrders = true := by kernel_rfl
theorem inf_int : Tryz.prog.info? 3 = some Tryz.t3 := by kernel_rfl
theorem inf_u8 : Tryz.prog.info? 5 = some Tryz.t5 := by kernel_rfl
theorem inf_str : Tryz.prog.info? 9 = some Tryz.t9 := by kernel_rfl
theorem int_size : Tryz.t3.size = 1 := rfl
theorem int_zero : Tryz.t3.zero = some (.int .i64 0) := rfl
theorem u8_size : Tryz.t5.size = 1 := rfl
theorem u8_bytes : Tryz.t5.bytes = 1 := rfl
theorem u8_zero : Tryz.t5.zero = some (.int .u8 0) := rfl
theorem str_size : Tryz.t9.size = 1 := rfl
theorem row_int (k : IntKind) : (TypeDesc.int k).isRow = false := rfl
theorem row_str : TypeDesc.string.isRow = false := rfl
theorem new_one {P : Program} {t e : TypeId} {i : TypeInfo} {z : Value} (hu : P.underlying t = some (.slice e)) (hi : P.info? e = some i) (hz : i.zero = some z) (hs : i.size = 1) (hf : flat 3 z = true) (hzc : z.cells.toList = [z]) (hz1 : oneAll [z] = true)
    (v : Value) (hv : v.cells.toList = [v]) (h1 : oneAll [v] = true) : nBuildSlice P t 1 [(0, v)] = some (.cells false 1 [v]) := by
  unfold nBuildSlice
  simp only [hu, hi, hz, hs, hf, hzc, hz1, hv, h1]
  simp [aFill, aZeros, hv, setL, h1]
theorem app_one {P : Program} {t e : TypeId} {i : TypeInfo} {z : Value} (hu : P.underlying t = some (.slice e)) (hi : P.info? e = some i) (hz : i.zero = some z) (hs : i.size = 1) (hzc : z.cells.toList.length = 1)
    (m : Mem) (v : Value) {g n : Nat} {xs : List Value} (hg : m.get g = some (.cells false 1 xs)) (hn : n = xs.length) (hb : (n + 1) * i.bytes ≤ 140737488355328) (hb2 : n + 1 ≤ 140737488355328) :
    aAppend P (m.push (.cells false 1 [v])) t t (.slice (some ⟨g, 0, none⟩) n n) (.slice (some ⟨m.size, 0, none⟩) 1 1) =
      some (.slice (some ⟨m.size + 1, 0, none⟩) (n + 1) (n + 1), ((m.push (.cells false 1 [v])).set g none).push (.cells false 1 (xs ++ [v]))) := by
  subst hn
  have h1 : (m.push (.cells false 1 [v])).get g = some (.cells false 1 xs) := by rw [Mem.get_push_old (Mem.get_lt hg)]; exact hg
  unfold aAppend aSrc
  simp only [hu, hi, hz, hs, hzc, if_true, Mem.get_push_new, h1]
  simp [hb, hb2]
theorem app_nil {P : Program} {t e : TypeId} {i : TypeInfo} {z : Value} (hu : P.underlying t = some (.slice e)) (hi : P.info? e = some i) (hz : i.zero = some z) (hs : i.size = 1) (hzc : z.cells.toList.length = 1)
    (m : Mem) (v : Value) (hb : i.bytes ≤ 140737488355328) :
    aAppend P (m.push (.cells false 1 [v])) t t (.slice none 0 0) (.slice (some ⟨m.size, 0, none⟩) 1 1) =
      some (.slice (some ⟨m.size + 1, 0, none⟩) 1 1, (m.push (.cells false 1 [v])).push (.cells false 1 [v])) := by
  unfold aAppend aSrc
  simp only [hu, hi, hz, hs, hzc, if_true, Mem.get_push_new]
  simp [hb]
def Sl (m : Mem) (v : Value) (xs : List Value) : Prop := (v = .slice none 0 0 ∧ xs = []) ∨ ∃ g, v = .slice (some ⟨g, 0, none⟩) xs.length xs.length ∧ m.get g = some (.cells false 1 xs)
theorem Sl.app {P : Program} {t e : TypeId} {i : TypeInfo} {z : Value} (hu : P.underlying t = some (.slice e)) (hi : P.info? e = some i) (hz : i.zero = some z) (hs : i.size = 1) (hzc : z.cells.toList.length = 1)
    {m₀ m : Mem} {s : Value} {xs : List Value} (h : Sl m s xs) (hgr : Grows m₀ m) (hnew : ∀ g l c, s = .slice (some ⟨g, 0, none⟩) l c → m₀.size ≤ g) (v : Value) (hb : (xs.length + 1) * i.bytes ≤ 140737488355328) (hb2 : xs.length + 1 ≤ 140737488355328) :
    ∃ s' m', aAppend P (m.push (.cells false 1 [v])) t t s (.slice (some ⟨m.size, 0, none⟩) 1 1) = some (s', m') ∧ Sl m' s' (xs ++ [v]) ∧ Grows m₀ m' ∧ (∀ g l c, s' = .slice (some ⟨g, 0, none⟩) l c → m₀.size ≤ g) := by
  rcases h with ⟨rfl, rfl⟩ | ⟨g, rfl, hg⟩
  · refine ⟨_, _, app_nil hu hi hz hs hzc m v (by simpa using hb), .inr ⟨m.size + 1, by simp, ?_⟩, (hgr.push _).push _, fun g l c e => ?_⟩
    · have := Mem.get_push_new (m.push (.cells false 1 [v])) (.cells false 1 [v])
      rw [Mem.size_push] at this
      simpa using this
    · cases e; have := hgr.1; omega
  · refine ⟨_, _, app_one hu hi hz hs hzc m v hg rfl hb hb2, .inr ⟨m.size + 1, by simp, ?_⟩, ((hgr.push _).set (hnew g _ _ rfl) _).push _, fun g l c e => ?_⟩
    · have := Mem.get_push_new ((m.push (.cells false 1 [v])).set g none) (.cells false 1 (xs ++ [v]))
      rw [Mem.size_set, Mem.size_push] at this
      exact this
    · cases e; have := hgr.1; omega
theorem index_str (s : ByteArray) (i : Int) (k : Nat) (h : i = k) (hk : k < s.size) : aIndex Tryz.prog 9 (.string s) (.int .i64 i) = some (.int .u8 ((s.data.toList.getD k 0).toNat : Int)) := by
  subst h
  unfold aIndex
  have hk' : k < s.data.toList.length := by rw [Array.length_toList]; exact hk
  simp only [Tryz.underlying9, if_pos (show (0 : Int) ≤ (k : Int) by omega), Int.toNat_natCast, List.getD, List.getElem?_eq_getElem hk', Option.getD_some]
theorem new_bytes (s : ByteArray) (hs : bsize s ≤ 140737488355328) : nToBytes Tryz.prog 9 44 s = some (.cells false 1 (bytesV s.data.toList)) := by
  unfold nToBytes
  simp only [Tryz.underlying9, Tryz.underlying44, Tryz.underlying5, if_pos hs]
  rfl
theorem Sl.at {m : Mem} {v : Value} {xs : List Value} (h : Sl m v xs) (hn : 0 < xs.length) : ∃ g, v = .slice (some ⟨g, 0, none⟩) xs.length xs.length ∧ m.get g = some (.cells false 1 xs) := by
  rcases h with ⟨_, rfl⟩ | h
  · simp at hn
  · exact h
theorem Sl.block {m : Mem} {g n : Nat} {xs : List Value} (hn : n = xs.length) (h : m.get g = some (.cells false 1 xs)) : Sl m (.slice (some ⟨g, 0, none⟩) n n) xs := .inr ⟨g, by rw [hn], h⟩
theorem sConv_slice (P : Program) (get : Nat → Option Blk) (s d : TypeId) (a : Option Addr) (l c : Nat) : sConv P get s d (some (.slice a l c)) = gToString P get s d (.slice a l c) := rfl
theorem cellBytes_bytesV : ∀ l : List UInt8, cellBytes (bytesV l) = some l
  | [] => rfl
  | b :: l => by
    have e : bytesV (b :: l) = Value.int .u8 (b.toNat : Int) :: bytesV l := rfl
    rw [e]
    simp only [cellBytes, cellBytes_bytesV l]
    simp
theorem to_str {get : Nat → Option Blk} {g n : Nat} {ro : Bool} {st : Nat} {l : List UInt8} (h : get g = some (.cells ro st (bytesV l))) (hn : n = l.length) : gToString Tryz.prog get 44 9 (.slice (some ⟨g, 0, none⟩) n n) = some (.string (str l)) := by
  subst hn
  have hl : (bytesV l).length = l.length := by simp [bytesV]
  unfold gToString
  simp only [Tryz.underlying9, Tryz.underlying44, Tryz.underlying5, h, List.drop_zero, Nat.zero_add, hl, Nat.le_refl, if_true]
  rw [List.take_of_length_le (by omega), cellBytes_bytesV]
  rfl
theorem wr {x : Int} (h0 : 0 ≤ x) (h1 : x ≤ 4611686018427387904) : IntKind.i64.wrap x = x := by
  obtain ⟨n, rfl⟩ := Int.eq_ofNat_of_zero_le h0
  exact (idx (n : Int) n rfl (by omega)).1
theorem aStr_add (a b : ByteArray) : aStr .add a b = if bsize a + bsize b ≤ 4611686018427387904 then some (.string (bcat a b)) else none := rfl
theorem aStr_eql (a b : ByteArray) : aStr .eql a b = some (.bool (beqB a b)) := rfl
theorem aStr_neq (a b : ByteArray) : aStr .neq a b = some (.bool (!beqB a b)) := rfl
theorem bsize_str (l : List UInt8) : bsize (str l) = l.length := rfl
theorem new_bytes_str (l : List UInt8) (hl : l.length ≤ 140737488355328) : nToBytes Tryz.prog 9 44 (str l) = some (.cells false 1 (bytesV l)) := new_bytes (str l) hl
theorem aInt_add (k : IntKind) (a b : Int) : aInt .add k a b = some (.int k (k.wrap (a + b))) := rfl
theorem aInt_sub (k : IntKind) (a b : Int) : aInt .sub k a b = some (.int k (k.wrap (a - b))) := rfl
theorem aInt_mul (k : IntKind) (a b : Int) : aInt .mul k a b = some (.int k (k.wrap (a * b))) := rfl
theorem aInt_quo (k : IntKind) (a b : Int) : aInt .quo k a b = if b = 0 then none else some (.int k (k.wrap (a.tdiv b))) := rfl
theorem aInt_rem (k : IntKind) (a b : Int) : aInt .rem k a b = if b = 0 then none else some (.int k (a.tmod b)) := rfl
theorem aInt_and (k : IntKind) (a b : Int) : aInt .and k a b = some (.int k (bits .and k a b)) := rfl
theorem aInt_or (k : IntKind) (a b : Int) : aInt .or k a b = some (.int k (bits .or k a b)) := rfl
theorem aInt_xor (k : IntKind) (a b : Int) : aInt .xor k a b = some (.int k (bits .xor k a b)) := rfl
theorem aInt_eql (k : IntKind) (a b : Int) : aInt .eql k a b = some (.bool (a == b)) := rfl
theorem aInt_neq (k : IntKind) (a b : Int) : aInt .neq k a b = some (.bool (a != b)) := rfl
theorem aInt_lss (k : IntKind) (a b : Int) : aInt .lss k a b = some (.bool (decide (a < b))) := rfl
theorem aInt_leq (k : IntKind) (a b : Int) : aInt .leq k a b = some (.bool (decide (a ≤ b))) := rfl
theorem aInt_gtr (k : IntKind) (a b : Int) : aInt .gtr k a b = some (.bool (decide (a > b))) := rfl
theorem aInt_geq (k : IntKind) (a b : Int) : aInt .geq k a b = some (.bool (decide (a ≥ b))) := rfl
theorem new_int (x : Int) : nBuildSlice Tryz.prog 35 1 [(0, .int .i64 x)] = some (.cells false 1 [.int .i64 x]) :=
  new_one Tryz.underlying35 inf_int int_zero int_size rfl rfl rfl _ rfl rfl
theorem new_u8 (x : Int) : nBuildSlice Tryz.prog 44 1 [(0, .int .u8 x)] = some (.cells false 1 [.int .u8 x]) :=
  new_one Tryz.underlying44 inf_u8 u8_zero u8_size rfl rfl rfl _ rfl rfl
end Go.Proofs.YtabffcplbjaklaaGreatDoor.Abs
namespace Go.Proofs.YtabffcplbjaklaaGreatDoor.Abs
open Go Go.RowKit
section
variable {P : Program} {m : Mem} {B : Nat} {t : TypeId} {cs : List Value}
theorem ARep.inv_int {k : IntKind} (hu : P.underlying t = some (.int k)) (h : ARep P m B t cs) : ∃ n, cs = [.int k n] ∧ (Lit.int k n).wf = true := by
  cases h <;> simp_all
theorem ARep.inv_string (hu : P.underlying t = some .string) (h : ARep P m B t cs) : ∃ s, cs = [.string s] ∧ s.size ≤ B := by
  cases h <;> simp_all
theorem ARep.inv_struct {fs : Array Field} (hu : P.underlying t = some (.struct fs)) (h : ARep P m B t cs) : cs.length = P.cellsOf t ∧ ∀ (i : Nat) (f : Field), fs[i]? = some f → ARep P m B f.type ((cs.drop f.offset).take (P.cellsOf f.type)) := by
  have : cs.length = P.cellsOf t ∧ ∀ f ∈ fs.toList, ARep P m B f.type ((cs.drop f.offset).take (P.cellsOf f.type)) := by cases h <;> simp_all
  exact ⟨this.1, fun i f hf => this.2 f (Array.mem_toList_iff.2 (Array.mem_of_getElem? hf))⟩
def Rd (m : Mem) (n : Nat) (v : Value) (k : Nat) (cells : List Value) : Prop :=
  ∃ a cap, v = .slice a k cap ∧ cells.length = k * n ∧ k ≤ cap ∧ cap ≤ maxLen ∧ (a = none → cap = 0) ∧ ∀ p, a = some p → ∃ b, p = ⟨b, 0, none⟩ ∧ (k ≠ 0 → ∃ ro, m.get b = some (.cells ro n cells))
theorem ARep.inv_slice {e : TypeId} (hu : P.underlying t = some (.slice e)) (h : ARep P m B t cs) : ∃ v k cells, cs = [v] ∧ Rd m (P.cellsOf e) v k cells ∧ (k ≤ B ∧ k * P.bytesOf e ≤ reachBytes) ∧ ∀ i, i < k → ARep P m B e ((cells.drop (i * P.cellsOf e)).take (P.cellsOf e)) := by
  cases h with
  | nil h => exact ⟨_, 0, [], rfl, ⟨none, 0, rfl, by simp, Nat.le_refl _, Nat.zero_le _, fun _ => rfl, fun p hp => by cases hp⟩, ⟨Nat.zero_le _, by simp⟩, fun i hi => by omega⟩
  | empty h b cap hb hc hB => exact ⟨_, 0, [], rfl, ⟨_, cap, rfl, by simp, Nat.zero_le _, hc, (fun hp => by cases hp), fun p hp => by cases hp; exact ⟨b, rfl, fun h => absurd rfl h⟩⟩, ⟨Nat.zero_le _, by simp⟩, fun i hi => by omega⟩
  | @slice _ e' h b len cap all hb hl hlc hc hB hx =>
    rw [h] at hu
    cases hu
    exact ⟨_, len, all, rfl, ⟨_, cap, rfl, hl, hlc, hc, (fun hp => by cases hp), fun p hp => by cases hp; exact ⟨b, rfl, fun _ => ⟨true, hb⟩⟩⟩, ⟨Nat.le_trans hlc hB.1, Nat.le_trans (Nat.mul_le_mul_right _ hlc) hB.2⟩, hx⟩
  | struct h => rw [h] at hu; cases hu
  | array h => rw [h] at hu; cases hu
  | _ h => rw [h] at hu; cases hu
theorem list_of_stretches {α : Type} (f : α → List Value) (wf : α → Prop) (n : Nat) : ∀ (k : Nat) (cells : List Value), cells.length = k * n → (∀ i, i < k → ∃ x, (cells.drop (i * n)).take n = f x ∧ wf x) → ∃ xs : List α, xs.length = k ∧ cells = xs.flatMap f ∧ ∀ x ∈ xs, wf x
  | 0, cells, h, _ => ⟨[], rfl, by simpa using h, fun x hx => by simp at hx⟩
  | k + 1, cells, h, hx => by
    rw [Nat.add_mul, Nat.one_mul] at h
    obtain ⟨x, h1, h2⟩ := hx 0 (by omega)
    obtain ⟨xs, g1, g2, g3⟩ := list_of_stretches f wf n k (cells.drop n) (by rw [List.length_drop]; omega) (by
      intro i hi
      obtain ⟨y, k1, k2⟩ := hx (i + 1) (by omega)
      refine ⟨y, ?_, k2⟩
      rw [← k1, List.drop_drop, Nat.add_mul, Nat.one_mul, Nat.add_comm])
    refine ⟨x :: xs, by simp [g1], ?_, fun y hy => ?_⟩
    · rw [List.flatMap_cons, ← g2, ← h1, Nat.zero_mul, List.drop_zero, List.take_append_drop]
    · rcases List.mem_cons.1 hy with rfl | hy
      · exact h2
      · exact g3 y hy
theorem ARep.list {α : Type} (f : α → List Value) (wf : α → Prop) {e : TypeId} {n : Nat} (hu : P.underlying t = some (.slice e)) (hn : P.cellsOf e = n) (he : ∀ cs, ARep P m B e cs → ∃ x, cs = f x ∧ wf x) (h : ARep P m B t cs) :
    ∃ v xs, cs = [v] ∧ Rd m n v (List.length xs) (xs.flatMap f) ∧ (xs.length ≤ B ∧ xs.length * P.bytesOf e ≤ reachBytes) ∧ ∀ x ∈ xs, wf x := by
  subst hn
  obtain ⟨v, k, cells, rfl, hr, hB, hx⟩ := h.inv_slice hu
  have hl : cells.length = k * P.cellsOf e := by obtain ⟨_, _, _, h, _⟩ := hr; exact h
  obtain ⟨xs, rfl, rfl, h3⟩ := list_of_stretches f wf _ k cells hl fun i hi => he _ (hx i hi)
  exact ⟨v, xs, rfl, hr, hB, h3⟩
end
theorem Rd.len {m : Mem} {n k : Nat} {v : Value} {cells : List Value} (h : Rd m n v k cells) : ∃ a cap, v = .slice a k cap := by
  obtain ⟨a, cap, rfl, _⟩ := h; exact ⟨a, cap, rfl⟩
theorem Rd.at {m : Mem} {n k cap : Nat} {a : Option Addr} {cells : List Value} (h : Rd m n (.slice a k cap) k cells) (hk : 0 < k) : ∃ b ro, a = some ⟨b, 0, none⟩ ∧ m.get b = some (.cells ro n cells) := by
  obtain ⟨a', cap', e, _, h2, _, h3, h4⟩ := h
  cases e
  cases a with
  | none => have := h3 rfl; omega
  | some p =>
    obtain ⟨b, rfl, hb⟩ := h4 p rfl
    obtain ⟨ro, hg⟩ := hb (by omega)
    exact ⟨b, ro, rfl, hg⟩
theorem Rd.grow {m m' : Mem} {n k : Nat} {v : Value} {cells : List Value} (h : Rd m n v k cells) (hg : Grows m m') : Rd m' n v k cells := by
  obtain ⟨a, cap, rfl, h1, h2, h3, h4, h5⟩ := h
  refine ⟨a, cap, rfl, h1, h2, h3, h4, fun p hp => ?_⟩
  obtain ⟨b, rfl, hc⟩ := h5 p hp
  exact ⟨b, rfl, fun hk => by obtain ⟨ro, h⟩ := hc hk; exact ⟨ro, hg.2 _ _ h⟩⟩
theorem Sl.rd {m : Mem} {v : Value} {xs : List Value} (h : Sl m v xs) (hx : xs.length ≤ maxLen) : Rd m 1 v xs.length xs := by
  rcases h with ⟨rfl, rfl⟩ | ⟨g, rfl, hg⟩
  · exact ⟨none, 0, rfl, by simp, Nat.le_refl _, Nat.zero_le _, fun _ => rfl, fun p hp => by cases hp⟩
  · exact ⟨_, _, rfl, by simp, Nat.le_refl _, hx, (fun hp => by cases hp), fun p hp => by cases hp; exact ⟨g, rfl, fun _ => ⟨_, hg⟩⟩⟩
theorem flatMap_at {α : Type} (f : α → List Value) (n : Nat) : ∀ (xs : List α) (i : Nat) (x : α), (∀ x ∈ xs, (f x).length = n) → xs[i]? = some x → ((xs.flatMap f).drop (i * n)).take n = f x
  | [], i, x, _, h => by simp at h
  | y :: r, 0, x, hl, h => by
    simp at h; subst h
    rw [Nat.zero_mul, List.drop_zero, List.flatMap_cons, ← hl y (by simp), List.take_left']
    rfl
  | y :: r, i + 1, x, hl, h => by
    have := flatMap_at f n r i x (fun x hx => hl x (by simp [hx])) (by simpa using h)
    rw [List.flatMap_cons, Nat.add_mul, Nat.one_mul, List.drop_append, List.drop_eq_nil_of_le (by rw [hl y (by simp)]; omega), List.nil_append, hl y (by simp), Nat.add_sub_cancel]
    exact this
theorem flatMap_len {α : Type} (f : α → List Value) (n : Nat) : ∀ (xs : List α), (∀ x ∈ xs, (f x).length = n) → (xs.flatMap f).length = xs.length * n
  | [], _ => by simp
  | y :: r, hl => by
    rw [List.flatMap_cons, List.length_append, flatMap_len f n r (fun x hx => hl x (by simp [hx])), hl y (by simp), List.length_cons, Nat.add_mul]
    omega
theorem Rd.sliceOf {α : Type} {S : Shape α} (f : α → List Value) {ι : Nat → Loc} {m : Mem} {w : World} (hr : Rel ι m w) {xs : List α} {v v' : Value} (hd : Rd m S.n v xs.length (xs.flatMap f)) (hv : VRel m.Has ι v v')
    (hS : ∀ x ∈ xs, S.rep w (f x) x) (hf : ∀ x ∈ xs, ∀ c ∈ f x, flat 3 c = true) : SliceOf S w v' xs := by
  have hlen : ∀ x ∈ xs, (f x).length = S.n := fun x hx => S.len (hS x hx)
  obtain ⟨a, cap, rfl, h1, h2, h3, h4, h5⟩ := hd
  cases a with
  | none =>
    have h0 := h4 rfl
    subst h0
    have hx : xs = [] := List.eq_nil_of_length_eq_zero (by omega)
    subst hx
    cases hv
    exact SliceOf.nil S w
  | some p =>
    obtain ⟨b, rfl, hc⟩ := h5 p rfl
    by_cases h0 : xs = []
    · subst h0
      generalize hk : ([] : List α).length = k at hv
      cases hv with
      | slice _ _ _ _ cap' hlt hl hcc => exact ⟨_, cap', by rw [hk], .inl ⟨rfl, by rcases hcc with hcc | hcc <;> omega, fun h => by cases h⟩⟩
      | empty _ _ p hlt => exact ⟨_, 0, rfl, .inl ⟨rfl, Nat.zero_le _, fun h => by cases h⟩⟩
    · have hpos : 0 < xs.length := List.length_pos_iff.2 h0
      obtain ⟨ro, hg⟩ := hc (by omega)
      obtain ⟨C, e, fz, g1, g2, g3, g4, g5, g6⟩ := hr.at' _ _ _ _ hg
      generalize hk : xs.length = k at hv
      cases hv with
      | empty _ _ p hlt => omega
      | slice _ _ _ _ cap' hlt hl hcc =>
        refine ⟨_, cap', by rw [hk], .inr ⟨(ι b).blk, (ι b).base + 0, rfl, lt_of_heap g1, by rcases hcc with hcc | hcc <;> omega, by rcases hcc with hcc | hcc <;> omega, fun i x hx => ⟨f x, hS x (List.mem_of_getElem? hx), fun j c hj => ?_⟩⟩⟩
        have hfa := flatMap_at f S.n xs i x hlen hx
        have hj0 : j < S.n := by rw [← hlen x (List.mem_of_getElem? hx)]; exact (List.getElem?_eq_some_iff.1 hj).1
        have hc : (xs.flatMap f)[i * S.n + j]? = some c := by
          rw [← hfa, List.getElem?_take, if_pos hj0, List.getElem?_drop] at hj
          exact hj
        obtain ⟨_, v', h8, h9⟩ := g5 _ c hc
        have hfl := hf x (List.mem_of_getElem? hx) c (List.mem_of_getElem? hj)
        rw [← flat_eq 3 c v' hfl h9] at h8
        rw [cell_of_block g1, ← h8]
        congr 1
        omega
theorem vrels_one {n : Nat → Prop} {ι : Nat → Loc} {a : Value} {ys : List Value} (h : VRels n ι [a] ys) : ∃ a', ys = [a'] ∧ VRel n ι a a' := by
  have hl := h.1
  match ys, hl with
  | [a'], _ => exact ⟨a', rfl, h.2 0 _ _ rfl rfl⟩
theorem vrels_two {n : Nat → Prop} {ι : Nat → Loc} {a b : Value} {ys : List Value} (h : VRels n ι [a, b] ys) : ∃ a' b', ys = [a', b'] ∧ VRel n ι a a' ∧ VRel n ι b b' := by
  have hl := h.1
  match ys, hl with
  | [a', b'], _ => exact ⟨a', b', rfl, h.2 0 _ _ rfl rfl, h.2 1 _ _ rfl rfl⟩
theorem map_flat {α β : Type} (f : α → β) : ∀ l : List α, l.map f = l.flatMap fun x => [f x]
  | [] => rfl
  | x :: r => by rw [List.map_cons, List.flatMap_cons, map_flat f r]; rfl
theorem Rd.strs {ι : Nat → Loc} {m : Mem} {w : World} (hr : Rel ι m w) {xs : List ByteArray} {v v' : Value} (hd : Rd m 1 v xs.length (xs.map .string)) (hv : VRel m.Has ι v v') : SliceOf strS w v' xs := by
  rw [map_flat] at hd
  exact Rd.sliceOf (S := strS) (fun s => [.string s]) hr hd hv (fun _ _ => rfl) fun x _ c hc => by simp at hc; subst hc; rfl
theorem args_one {P : Program} {m : Mem} {B : Nat} {t : TypeId} {ts : List TypeId} {vs : List Value} (h : ArgsOf P m B (t :: ts) vs) : ∃ v r, vs = v :: r ∧ ArgOf P m B t v ∧ ArgsOf P m B ts r := by
  cases h with
  | cons h hs => exact ⟨_, _, rfl, h, hs⟩
theorem args_nil {P : Program} {m : Mem} {B : Nat} {vs : List Value} (h : ArgsOf P m B [] vs) : vs = [] := by cases h; rfl
theorem arg_list {P : Program} {m : Mem} {B : Nat} {t e : TypeId} {v : Value} (hu : P.underlying t = some (.slice e)) (h : ArgOf P m B t v) : ARep P m B t [v] := by
  unfold ArgOf at h
  rw [hu] at h
  exact h
end Go.Proofs.YtabffcplbjaklaaGreatDoor.Abs
namespace Go.Proofs.YtabffcplbjaklaaGreatDoor.Abs
open Go Go.RowKit
theorem nth_zero (o : Option (Option Blk)) (r : List (Option (Option Blk))) : nth (o :: r) 0 = o := rfl
theorem nth_succ (o : Option (Option Blk)) (r : List (Option (Option Blk))) (i : Nat) : nth (o :: r) (i + 1) = nth r i := rfl
theorem sig_local (K : Nat) (keep : List Nat) (i : Nat) : sig K keep (K + i) = match pos keep i with | some c => some (K + c) | none => none := by
  unfold sig
  rw [if_neg (by omega), show K + i - K = i by omega]
  all_goals (cases pos keep i <;> rfl)
theorem Cl.agg {p : Nat → Prop} {cs : Array Value} (h : Cl p (.agg cs)) : ∀ v ∈ cs.toList, Cl p v := by
  obtain ⟨κ, u, h⟩ := h
  obtain ⟨ys, rfl, hl, hh⟩ := h.agg_inv
  intro v hv
  obtain ⟨i, hi, rfl⟩ := List.getElem_of_mem hv
  exact (hh i _ _ (List.getElem?_eq_getElem hi) (List.getElem?_eq_getElem (by rw [← hl]; exact hi))).cl
theorem Cl.tuple {p : Nat → Prop} {cs : Array Value} (h : Cl p (.tuple cs)) : ∀ v ∈ cs.toList, Cl p v := by
  obtain ⟨κ, u, h⟩ := h
  obtain ⟨ys, rfl, hl, hh⟩ := h.tuple_inv
  intro v hv
  obtain ⟨i, hi, rfl⟩ := List.getElem_of_mem hv
  exact (hh i _ _ (List.getElem?_eq_getElem hi) (List.getElem?_eq_getElem (by rw [← hl]; exact hi))).cl
def rowIn (n o : Nat) : Option Blk → Option Value
  | some (.cells _ _ cs) => if o + n ≤ cs.length then some (.agg ((cs.drop o).take n).toArray) else none
  | _ => none
def cellIn (o : Nat) : Option Blk → Option Value
  | some (.cells _ _ cs) => cs[o]?
  | _ => none
def putIn (n : Nat) (m : Mem) (b o : Nat) (vs : List Value) : Option Blk → Option Mem
  | some (.cells false s cs) => if vs.length = n ∧ o + vs.length ≤ cs.length ∧ oneAll vs = true then some (m.set b (some (.cells false s (setL cs o vs)))) else none
  | _ => none
section
variable {P : Program} {t : TypeId} {d : TypeDesc} {i : TypeInfo} {n : Nat}
theorem ld_row (hu : P.underlying t = some d) (hd : d.isRow = true) (hi : P.info? t = some i) (hs : i.size = n) (get : Nat → Option Blk) (b o : Nat) : gLoad P get t (.pointer (some ⟨b, o, none⟩)) = rowIn n o (get b) := by
  subst hs
  cases hb : get b with
  | none => simp only [gLoad, hb, rowIn]
  | some x => cases x <;> simp only [gLoad, hb, rowIn, hu, hd, if_true, hi]
theorem ld_cell (hu : P.underlying t = some d) (hd : d.isRow = false) (get : Nat → Option Blk) (b o : Nat) : gLoad P get t (.pointer (some ⟨b, o, none⟩)) = cellIn o (get b) := by
  cases hb : get b with
  | none => simp only [gLoad, hb, cellIn]
  | some x => cases x <;> simp only [gLoad, hb, cellIn, hu, hd, Bool.false_eq_true, if_false]
theorem st_any (hi : P.info? t = some i) (hs : i.size = n) (m : Mem) (b o : Nat) (v : Value) : aStore P m t (.pointer (some ⟨b, o, none⟩)) v = putIn n m b o v.cells.toList (m.get b) := by
  subst hs
  cases hb : m.get b with
  | none => simp only [aStore, hb, putIn]
  | some x => rcases x with ⟨ro, s, cs⟩ | ⟨ro, es, c⟩ | ⟨ro, d, s, l, k⟩ | ⟨ro, C, e, lo, hi9⟩ <;> cases ro <;> simp only [aStore, hb, putIn, hi]
end
theorem aLoad_g (P : Program) (m : Mem) (t : TypeId) (p : Value) : aLoad P m t p = gLoad P m.get t p := by
  unfold aLoad gLoad
  rfl
theorem Grows.ext (m : Mem) (l : List (Option (Option Blk))) : Grows m (ext m l) := ⟨by rw [ext_size]; omega, fun b x h => ext_get_old l h⟩
theorem g_tt : ((some true : Option Bool) == some true) = true := rfl
theorem g_tf : ((some true : Option Bool) == some false) = false := rfl
theorem g_ft : ((some false : Option Bool) == some true) = false := rfl
theorem g_ff : ((some false : Option Bool) == some false) = true := rfl
theorem aUn_not (b : Bool) : aUn .not (.bool b) = some (.bool !b) := rfl
theorem agg_cells (xs : Array Value) : (Value.agg xs).cells.toList = xs.toList := rfl
theorem row_struct (fs : Array Field) : (TypeDesc.struct fs).isRow = true := rfl
theorem row_array (k : Nat) (e : TypeId) : (TypeDesc.array k e).isRow = true := rfl
theorem rowIn_at {α : Type} {n : Nat} {f : α → List Value} {xs : List α} (hl : ∀ x ∈ xs, (f x).length = n) {k : Nat} {x : α} (hx : xs[k]? = some x) (ro : Bool) (s : Nat) : rowIn n (k * n) (some (.cells ro s (xs.flatMap f))) = some (.agg (f x).toArray) := by
  have h1 := flatMap_len f n xs hl
  have h2 := (List.getElem?_eq_some_iff.1 hx).1
  have h3 := Nat.mul_le_mul_right n (show k + 1 ≤ xs.length by omega)
  rw [Nat.add_mul, Nat.one_mul] at h3
  unfold rowIn
  simp only
  rw [if_pos (by omega), flatMap_at f n xs k x hl hx]
theorem flatMap_get {α : Type} {n : Nat} {f : α → List Value} {xs : List α} (hl : ∀ x ∈ xs, (f x).length = n) {k : Nat} {x : α} (hx : xs[k]? = some x) {o : Nat} (ho : o < n) : (xs.flatMap f)[k * n + o]? = (f x)[o]? := by
  rw [← flatMap_at f n xs k x hl hx, List.getElem?_take, if_pos ho, List.getElem?_drop]
theorem nBox_row {P : Program} (t : TypeId) {xs : Array Value} (h : oneAll xs.toList = true) : nBox P t (.agg xs) = some (.cells false (aStride P t) xs.toList) := by
  unfold nBox
  rw [agg_cells, if_pos h]
def zZ := And.intro (And.intro (And.intro (And.intro (And.intro (And.intro (And.intro (And.intro @alOf.eq_1 @alOf.eq_2) (And.intro @sOps.eq_1 @sOpsB.eq_1)) (And.intro (And.intro @sOpsB.eq_2 @sOp.eq_1) (And.intro @sOne.eq_1 @sHOne.eq_1))) (And.intro (And.intro (And.intro @sHOp.eq_1 @sGuard.eq_1) (And.intro @sWant.eq_1 @sFun.eq_1)) (And.intro (And.intro @sGuarded.eq_1 @sGuarded.eq_2) (And.intro @sGuarded.eq_3 @sGuardedV.eq_1)))) (And.intro (And.intro (And.intro (And.intro @sGuardedV.eq_2 @sGuardedV.eq_3) (And.intro @isFn.eq_1 @isFn.eq_2)) (And.intro (And.intro @isFn.eq_3 @isVal.eq_1) (And.intro @isVal.eq_2 @kind.eq_1))) (And.intro (And.intro (And.intro @kind.eq_2 @kind.eq_3) (And.intro @kind.eq_4 @kind.eq_5)) (And.intro (And.intro @kind.eq_6 @kind.eq_7) (And.intro (@kind.eq_8) (And.intro @kind.eq_9 @kind.eq_10)))))) (And.intro (And.intro (And.intro (And.intro (And.intro @kind.eq_11 @kind.eq_12) (And.intro @kindB.eq_1 @kindB.eq_2)) (And.intro (And.intro @kindB.eq_3 @kindB.eq_4) (And.intro @kindC.eq_1 @kindC.eq_2))) (And.intro (And.intro (And.intro @kindT.eq_1 @kindT.eq_2) (And.intro @withV_some @withV_ite)) (And.intro (And.intro @sVal.eq_1 @sVal.eq_2) (And.intro @sVal.eq_3 @sVal.eq_4)))) (And.intro (And.intro (And.intro (And.intro @sVal.eq_5 @sVal.eq_6) (And.intro @sVal.eq_7 @sVal.eq_8)) (And.intro (And.intro @sVal.eq_9 @sVal.eq_10) (And.intro @sVal.eq_11 @sVal.eq_12))) (And.intro (And.intro (And.intro @sVal.eq_13 @sVal.eq_14) (And.intro @sVal.eq_15 @sVal.eq_16)) (And.intro (And.intro @sVal.eq_17 @sVal.eq_18) (And.intro (@sVal.eq_19) (And.intro @sVal.eq_20 @sVal.eq_21))))))) (And.intro (And.intro (And.intro (And.intro (And.intro (And.intro @sNew.eq_1 @sNew.eq_2) (And.intro @sNew.eq_3 @sNew.eq_4)) (And.intro (And.intro @sNew.eq_5 @sNew.eq_6) (And.intro @sNew.eq_7 @sMem.eq_1))) (And.intro (And.intro (And.intro @sMem.eq_2 @sMem.eq_3) (And.intro @sMem.eq_4 @sMem.eq_5)) (And.intro (And.intro @sMem.eq_6 @sAny.eq_1) (And.intro @sAny.eq_2 @sAny.eq_3)))) (And.intro (And.intro (And.intro (And.intro @sLookup.eq_1 @sLookup.eq_2) (And.intro @sLookup.eq_3 @sEntry.eq_1)) (And.intro (And.intro @sEntry.eq_2 @sArgs.eq_1) (And.intro @sArgs.eq_2 @sParts.eq_1))) (And.intro (And.intro (And.intro @sParts.eq_2 @sBin.eq_1) (And.intro @sBin.eq_2 @sConv.eq_1)) (And.intro (And.intro @sConv.eq_2 @sConv.eq_3) (And.intro (@sConv.eq_4) (And.intro @sConv_slice @vSlice.eq_1)))))) (And.intro (And.intro (And.intro (And.intro (And.intro @vSlice.eq_2 @vSlice.eq_3) (And.intro @vSlice.eq_4 @vSlice.eq_5)) (And.intro (And.intro @fOpt.eq_1 @fOpt.eq_2) (And.intro @vPick.eq_1 @vPick.eq_2))) (And.intro (And.intro (And.intro @vPick.eq_3 @vLoad.eq_1) (And.intro @vLoad.eq_2 @vIndexAddr.eq_1)) (And.intro (And.intro @vIndexAddr.eq_2 @vIndexAddr.eq_3) (And.intro @vIndex.eq_1 @vIndex.eq_2)))) (And.intro (And.intro (And.intro (And.intro @vIndex.eq_3 @vExtract.eq_1) (And.intro @vExtract.eq_2 @vUn.eq_1)) (And.intro (And.intro @vUn.eq_2 @aUn_not) (And.intro @Bool.not_true @Bool.not_false))) (And.intro (And.intro (And.intro @sCallee.eq_1 @sCallee.eq_2) (And.intro @AL.look.eq_1 @AL.look.eq_2)) (And.intro (And.intro @AL.look.eq_3 @AL.look.eq_4) (And.intro (@AL.get.eq_1) (And.intro @AL.get.eq_2 @AL.keep_cons)))))))) (And.intro (And.intro (And.intro (And.intro (And.intro (And.intro (And.intro @AL.keep.eq_1 @AL.keep.eq_2) (And.intro @flat.eq_1 @flat.eq_2)) (And.intro (And.intro @flat.eq_3 @flat.eq_4) (And.intro @flat.eq_5 @flat.eq_6))) (And.intro (And.intro (And.intro @flat.eq_7 @flat.eq_8) (And.intro @flat.eq_9 @flat.eq_10)) (And.intro (And.intro @flat.eq_11 @flat.eq_12) (And.intro @flat.eq_13 @flat.eq_14)))) (And.intro (And.intro (And.intro (And.intro @flat.eq_15 @sPut.eq_1) (And.intro @sPut.eq_2 @isC.eq_1)) (And.intro (And.intro @isC.eq_2 @sThen.eq_1) (And.intro @sThen.eq_2 @sBlock.eq_1))) (And.intro (And.intro (And.intro @sBlock.eq_2 @cThen.eq_1) (And.intro @cThen.eq_2 @cBlock.eq_1)) (And.intro (And.intro @cBlock.eq_2 @sHead.eq_1) (And.intro (@sHeadB.eq_1) (And.intro @sHeadB.eq_2 @sEnd.eq_1)))))) (And.intro (And.intro (And.intro (And.intro (And.intro @sEnd.eq_2 @sEnd.eq_3) (And.intro @List.take_succ_cons.{0} @List.take_zero.{0})) (And.intro (And.intro @List.drop_succ_cons.{0} @List.drop_zero.{0}) (And.intro @aBin_ii @aBin_ss))) (And.intro (And.intro (And.intro @aBinI.eq_1 @aBinI.eq_2) (And.intro @aBinI.eq_3 @aInt_add)) (And.intro (And.intro @aInt_sub @aInt_mul) (And.intro @aInt_quo @aInt_rem)))) (And.intro (And.intro (And.intro (And.intro @aInt_and @aInt_or) (And.intro @aInt_xor @aInt_eql)) (And.intro (And.intro @aInt_neq @aInt_lss) (And.intro @aInt_leq @aInt_gtr))) (And.intro (And.intro (And.intro @aInt_geq @aStr_add) (And.intro @aStr_eql @aStr_neq)) (And.intro (And.intro @Bool.false_eq_true @Bool.or_true) (And.intro (@Bool.or_false) (And.intro @Bool.true_or @if_true.{1}))))))) (And.intro (And.intro (And.intro (And.intro (And.intro (And.intro @if_false.{1} @true_and) (And.intro @and_true @List.nil_append.{0})) (And.intro (And.intro @List.append_nil.{0} Tryz.underlying44) (And.intro Tryz.underlying5 Tryz.underlying3))) (And.intro (And.intro (And.intro Tryz.underlying35 Tryz.underlying9) (And.intro @inf_u8 @inf_int)) (And.intro (And.intro @inf_str @u8_size) (And.intro @int_size @Abs.str_size)))) (And.intro (And.intro (And.intro (And.intro @aIndexAddr.eq_1 @aIndexAddr.eq_2) (And.intro @row_int @row_str)) (And.intro (And.intro @Nat.mul_one @Nat.zero_add) (And.intro @aLen.eq_1 @aLen.eq_2))) (And.intro (And.intro (And.intro @aLen.eq_3 @vCall.eq_1) (And.intro @vCall.eq_2 @vCall.eq_3)) (And.intro (And.intro @vBuiltin.eq_1 @vBuiltin.eq_2) (And.intro (@vBuiltin.eq_3) (And.intro @vBuiltin.eq_4 @vLen.eq_1)))))) (And.intro (And.intro (And.intro (And.intro (And.intro @vLen.eq_2 @vLen.eq_3) (And.intro @new_int @new_u8)) (And.intro (And.intro @Int.toNat_natCast @vFieldAddr.eq_1) (And.intro @vFieldAddr.eq_2 @vBuild.eq_1))) (And.intro (And.intro (And.intro @vBuild.eq_2 @vNil.eq_1) (And.intro @vNil.eq_2 @vNil.eq_3)) (And.intro (And.intro @ext_size @ext_push) (And.intro @ext_set @ext_get)))) (And.intro (And.intro (And.intro (And.intro @nth_zero @nth_succ) (And.intro @List.length_cons.{0} @List.length_nil.{0})) (And.intro (And.intro @List.cons_append.{0} @List.set_cons_zero.{0}) (And.intro @List.set_cons_succ.{0} @cellIn.eq_1))) (And.intro (And.intro (And.intro @cellIn.eq_2 @Region.wanted.eq_1) (And.intro @g_tt @g_tf)) (And.intro (And.intro @g_ft @g_ff) (And.intro (@List.getElem?_cons_succ.{0}) (And.intro @List.getElem?_cons_zero.{0} @List.toList_toArray.{0}))))))))
def zG := And.intro (And.intro (And.intro (And.intro (And.intro @GcM.eq_1 @GcB.eq_1) (And.intro (@gcOk.eq_1) (And.intro @fixB.eq_1 @fixB.eq_2))) (And.intro (And.intro @fixB.eq_3 @nodupB.eq_1) (And.intro (@nodupB.eq_2) (And.intro @renF.eq_1 @renF.eq_2)))) (And.intro (And.intro (And.intro @renMs.eq_1 @renMs.eq_2) (And.intro (@renB.eq_1) (And.intro @renB.eq_2 @renB.eq_3))) (And.intro (And.intro (@renB.eq_4) (And.intro @renL.eq_1 @renL.eq_2)) (And.intro (@ren.eq_1) (And.intro @ren.eq_2 @ren.eq_3))))) (And.intro (And.intro (And.intro (And.intro @ren.eq_4 @ren.eq_5) (And.intro (@ren.eq_6) (And.intro @ren.eq_7 @ren.eq_8))) (And.intro (And.intro (@ren.eq_9) (And.intro @ren.eq_10 @ren.eq_11)) (And.intro (@ren.eq_12) (And.intro @ren.eq_13 @ren.eq_14)))) (And.intro (And.intro (And.intro @ren.eq_15 @ren.eq_16) (And.intro (@ren.eq_17) (And.intro @ren.eq_18 @sig_local))) (And.intro (And.intro (@pos.eq_1) (And.intro @pos.eq_2 @bEnd.eq_1)) (And.intro (@bEnd.eq_2) (And.intro @bEnd.eq_3 @ToldB.eq_1)))))
end Go.Proofs.YtabffcplbjaklaaGreatDoor.Abs
namespace Go.Proofs.YtabffcplbjaklaaGreatDoor.Abs
open Go
structure Thin (m m' : Mem) : Prop where
  has : ∀ b, m.Has b → m'.Has b
  get : ∀ b ro s cs, m'.get b = some (.cells ro s cs) → ∃ r, m.get b = some (.cells r s cs) ∧ (r = true → ro = true)
  oth : ∀ b x, m'.get b = some x → (∃ ro s cs, x = .cells ro s cs) ∨ m.get b = some x
theorem Thin.refl (m : Mem) : Thin m m := ⟨fun _ h => h, fun b ro s cs h => ⟨ro, h, fun h => h⟩, fun _ _ h => .inr h⟩
theorem Thin.trans {m m' m'' : Mem} (h : Thin m m') (k : Thin m' m'') : Thin m m'' :=
  ⟨fun b hb => k.has b (h.has b hb), fun b ro s cs hb => by
    obtain ⟨r, h1, h2⟩ := k.get b ro s cs hb
    obtain ⟨r', h3, h4⟩ := h.get b r s cs h1
    exact ⟨r', h3, fun e => h2 (h4 e)⟩, fun b x hb => (k.oth b x hb).elim .inl fun hb => h.oth b x hb⟩
theorem Thin.own {m m' : Mem} (h : Thin m m') {b : Nat} (hb : m'.Own b) : m.Own b := by
  obtain ⟨x, hb, hx⟩ := hb
  rcases h.oth b x hb with ⟨ro, s, cs, rfl⟩ | h1
  · have hro : ro = false := by simpa [Blk.own] using hx
    subst hro
    obtain ⟨r, h1, h2⟩ := h.get b false s cs hb
    cases r with
    | false => exact .of h1
    | true => cases h2 rfl
  · exact ⟨x, h1, hx⟩
theorem Thin.live {m m' : Mem} (h : Thin m m') {b : Nat} (hb : m'.get b ≠ none) : m.get b ≠ none := by
  cases hx : m'.get b with
  | none => exact absurd hx hb
  | some x =>
    rcases h.oth b x hx with ⟨ro, s, cs, rfl⟩ | h1
    · obtain ⟨r, h1, _⟩ := h.get b ro s cs hx
      rw [h1]; simp
    · rw [h1]; simp
theorem Rel.thin {ι : Nat → Loc} {m m' : Mem} {w : World} (h : Rel ι m w) (k : Thin m m') : Rel ι m' w := by
  refine ⟨fun b ro s cs hb => ?_, fun b x hb => ?_, fun b b' hb hb' hne => h.inj b b' (k.live hb) (k.own hb') hne, ⟨h.glob.known, fun b hb => h.glob.own b (k.own hb)⟩⟩
  rotate_left
  · rcases k.oth b x hb with ⟨ro, s, cs, rfl⟩ | h1
    · trivial
    · exact (h.oth b x h1).mono k.has fun _ _ => rfl
  obtain ⟨r, h1, h2⟩ := k.get b ro s cs hb
  obtain ⟨C, e, fz, g1, g2, g3, g4, g5, g6⟩ := h.at' b r s cs h1
  refine ⟨C, e, fz, g1, g2, g3, g4, fun i v hi => ?_, fun hro => g6 ?_⟩
  · obtain ⟨g7, v', g8, g9⟩ := g5 i v hi
    exact ⟨g7, v', g8, g9.mono k.has fun _ _ => rfl⟩
  · cases r with
    | false => rfl
    | true => rw [h2 rfl] at hro; cases hro
theorem Step.thin {ι₀ ι : Nat → Loc} {m₀ m m' : Mem} {w₀ w : World} (h : Step ι₀ m₀ w₀ ι m w) (k : Thin m m') : Step ι₀ m₀ w₀ ι m' w :=
  ⟨h.os, h.tape, h.output, h.size, fun b hb => k.has b (h.grows b hb), h.at_, h.block, fun b hb => h.own b (k.own hb)⟩
theorem Spec.thin {P : Program} {f : FuncId} {xs : List Value} {m : Mem} {R R' : Value → Mem → Prop} (h : Spec P f xs m R) (hr : ∀ v M, R v M → ∃ M', Thin M M' ∧ R' v M') : Spec P f xs m R' := by
  intro ι w ys hy hw
  refine (h ι w ys hy hw).mono ?_
  rintro e w' ⟨v, v', κ, M, h1, h2, h3, h4, h5⟩
  obtain ⟨M', k1, k2⟩ := hr v M h1
  exact ⟨v, v', κ, M', k2, h2, h3.mono k1.has fun _ _ => rfl, h4.thin k1, h5.thin k1⟩
def keepF (f : AL) : List Nat → Option AL
  | [] => some []
  | t :: r => match AL.get f t with
    | none => none
    | some v => match keepF f r with
      | none => none
      | some q => some ((t, v) :: q)
theorem keepF_get {f : AL} : ∀ {ts : List Nat} {q : AL}, keepF f ts = some q → ∀ (t : Nat) (v : Value), AL.get q t = some v → AL.get f t = some v
  | [], q, h, t, v, hv => by simp only [keepF, Option.some.injEq] at h; subst h; simp [AL.get] at hv
  | u :: r, q, h, t, v, hv => by
    simp only [keepF] at h
    split at h <;> first | (cases h; done) | skip
    rename_i x hx
    split at h <;> first | (cases h; done) | skip
    rename_i q' hq'
    cases h
    simp only [AL.get] at hv
    split at hv
    · rename_i e; subst e; cases hv; exact hx
    · exact keepF_get hq' t v hv
theorem Knows.keepF {n : Nat} {f f' : AL} {a : List Value} {ts : List Nat} (h : Knows n f a) (hk : keepF f ts = some f') : Knows n f' a := ⟨h.1, fun t v hv => h.2 t v (keepF_get hk t v hv)⟩
def JoinM (f : AL) (m : Mem) [J : Box (AL → Mem → Prop)] : Prop := ∃ slots, @withV _ (keepF f slots) ⟨fun f' => ∃ m', Thin m m' ∧ J.k f' m'⟩
section
variable {P : Program} {n k : Nat} {f : AL} {m : Mem} {Q : Exit → AL → Mem → Prop}
theorem MW_loop {c : Code} (I : Nat → AL → Mem → Prop) (j₀ : Nat) (h₀ : @JoinM f m ⟨I j₀⟩)
    (round : ∀ j f m, I j f m → @CW P n k ⟨c⟩ ⟨@cThen ⟨fun f' m' => @JoinM f' m' ⟨fun f2 m2 => ∃ j', I j' f2 m2 ∧ j' < j⟩⟩ ⟨Q⟩⟩ f m) : @CW P n k ⟨.loop c⟩ ⟨Q⟩ f m := by
  intro a ha ι₀ m₀ w₀ ι act w h0 hs hA hr
  have run : ∀ j f m, I j f m → ∀ (a : List Value) (ι : Nat → Loc) (act : Act) (w : World), Knows n f a → Step ι₀ m₀ w₀ ι m w → ARel m.Has ι a act → Rel ι m w →
      Code.rounds P c (Post ι₀ m₀ w₀ fun e a' m' => ∃ f', Knows n f' a' ∧ Q e f' m') (j + 1) act w := by
    intro j
    induction j using Nat.strongRecOn with
    | _ j ih =>
      intro f m hI a ι act w ha hs hA hr
      refine wp_mono (round j f m hI a ha ι₀ m₀ w₀ ι act w h0 hs hA hr) ?_
      rintro e act2 w2 ⟨κ, a2, m2, ⟨f2, hf2, hq2⟩, ha2, hr2, hs2⟩
      cases e with
      | normal =>
        obtain ⟨slots, hq2⟩ := hq2
        obtain ⟨f3, hf3, m3, ht, j', hI', hlt⟩ := withV_spec hq2
        exact SW_loop.rounds_le (ih j' hlt f3 m3 hI' a2 κ act2 w2 (hf2.keepF hf3) (hs2.thin ht) (ha2.mono ht.has fun _ _ => rfl) (hr2.thin ht)) (by omega)
      | _ => exact ⟨κ, a2, m2, ⟨f2, hf2, hq2⟩, ha2, hr2, hs2⟩
  obtain ⟨slots, hq2⟩ := h₀
  obtain ⟨f3, hf3, m3, ht, hI'⟩ := withV_spec hq2
  exact wp_loop_rounds (j₀ + 1) (run j₀ f3 m3 hI' a ι act w (ha.keepF hf3) (hs.thin ht) (hA.mono ht.has fun _ _ => rfl) (hr.thin ht))
theorem MW_mid {x y : Code} (I : AL → Mem → Prop) (h : @CW P n k ⟨x⟩ ⟨@cThen ⟨fun f' m' => @JoinM f' m' ⟨I⟩⟩ ⟨Q⟩⟩ f m) (hy : ∀ f m, I f m → @CW P n k ⟨y⟩ ⟨Q⟩ f m) : @CW P n k ⟨.seq x y⟩ ⟨Q⟩ f m := by
  refine CW_seq (h.mono ?_)
  intro e f' m' hq
  cases e with
  | normal =>
    obtain ⟨slots, hq⟩ := hq
    obtain ⟨f3, hf3, m3, ht, hI⟩ := withV_spec hq
    intro a ha ι₀ m₀ w₀ ι act w h0 hs hA hr
    exact hy f3 m3 hI a (ha.keepF hf3) ι₀ m₀ w₀ ι act w h0 (hs.thin ht) (hA.mono ht.has fun _ _ => rfl) (hr.thin ht)
  | _ => exact hq
def mEnd (P : Program) (rs : List ResultVar) (R : Value → Mem → Prop) : Exit → AL → Mem → Prop
  | .ret, f, m => @withV _ (sAnswer P rs f m) ⟨fun v => ∃ m', Thin m m' ∧ R v m'⟩
  | .normal, f, m => @withV _ (sAnswer P rs f m) ⟨fun v => ∃ m', Thin m m' ∧ R v m'⟩
  | _, _, _ => False
theorem Spec.walkM {g : FuncId} {fn : Func} {c : Code} {xs : List Value} {R : Value → Mem → Prop} {m : Mem} (hf : P.funcs[g]? = some fn) (hb : fn.body = some c) (rs : Array ResultVar) (hr : fn.results = rs) (n : Nat) (hn : fn.ntmps = n) (hx : xs.length ≤ n)
    (h : Within m → (∀ x ∈ xs, Cl m.Has x) → ∀ k, @CW P n k ⟨c⟩ ⟨mEnd P rs.toList R⟩ (alOf 0 xs) m) : Spec P g xs m R := by
  intro ι w ys hys hrel
  have hcl : ∀ x ∈ xs, Cl m.Has x := by
    intro x hx
    obtain ⟨i, hi, rfl⟩ := List.getElem_of_mem hx
    exact (hys.2 i _ _ (List.getElem?_eq_getElem hi) (List.getElem?_eq_getElem (by rw [← hys.1]; exact hi))).cl
  have hw := hrel.within
  have hs : Spec P g xs m fun v M => ∃ M', Thin M M' ∧ R v M' := by
    refine Spec.walk hf hb rs hr n hn hx fun a ha ι₀ m₀ w₀ ι act w hs hA hr => ?_
    refine wp_mono (h hw hcl m₀.size a ha ι₀ m₀ w₀ ι act w (Nat.le_refl _) hs hA hr) ?_
    rintro e act' w' ⟨κ, a', m', ⟨f', h1, h2⟩, h3⟩
    refine ⟨κ, a', m', ⟨f', h1, ?_⟩, h3⟩
    cases e <;> exact h2
  exact (hs.thin fun v M h => h) ι w ys hys hrel
end
end Go.Proofs.YtabffcplbjaklaaGreatDoor.Abs
namespace Go.Proofs.YtabffcplbjaklaaGreatDoor.Abs
open Go
section
variable {P : Program} {t tx e : TypeId} {i : TypeInfo} {z : Value} {N : Nat}
theorem src_block {d : TypeId} (hx : P.underlying tx = some (.slice d)) {m : Mem} {g k c : Nat} {ro : Bool} {s : Nat} {news : List Value} (hg : m.get g = some (.cells ro s news)) (hk : news.length = k * N) :
    aSrc P m tx N (.slice (some ⟨g, 0, none⟩) k c) = some (k, news) := by
  unfold aSrc
  simp only [hx, hg, Nat.zero_add, ← hk, Nat.le_refl, if_true, List.drop_zero, List.take_length]
theorem bapp (hu : P.underlying t = some (.slice e)) (hi : P.info? e = some i) (hz : i.zero = some z) (hs : i.size = N) (hzc : z.cells.toList.length = N) (b : Mem) (l : List (Option (Option Blk))) {x : Value} {k n j : Nat} {cs news : List Value}
    (hsrc : aSrc P (ext b l) tx N x = some (k, news)) (hk : k ≠ 0) (hj : nth l j = some (some (.cells false N cs))) (hn : cs.length = n * N) (hb : (n + k) * i.bytes ≤ 140737488355328) (hb2 : n + k ≤ 140737488355328) :
    aAppend P (ext b l) t tx (.slice (some ⟨b.size + j, 0, none⟩) n n) x = some (.slice (some ⟨b.size + l.length, 0, none⟩) (n + k) (n + k), ext b (l.set j (some none) ++ [some (some (.cells false N (cs ++ news)))])) := by
  have hg : (ext b l).get (b.size + j) = some (.cells false N cs) := by rw [ext_get, hj]
  unfold aAppend
  simp only [hu, hi, hz, hs, hzc, if_true, hsrc, if_neg hk, hg]
  rw [if_neg (by omega), if_pos ⟨by omega, trivial, hb, hb2⟩, ext_size, ext_set, ext_push, List.drop_zero, ← hn, List.take_length]
theorem bapp_nil (hu : P.underlying t = some (.slice e)) (hi : P.info? e = some i) (hz : i.zero = some z) (hs : i.size = N) (hzc : z.cells.toList.length = N) (b : Mem) (l : List (Option (Option Blk))) {x : Value} {k : Nat} {news : List Value}
    (hsrc : aSrc P (ext b l) tx N x = some (k, news)) (hk : k ≠ 0) (hb : k * i.bytes ≤ 140737488355328) (hb2 : k ≤ 140737488355328) :
    aAppend P (ext b l) t tx (.slice none 0 0) x = some (.slice (some ⟨b.size + l.length, 0, none⟩) k k, ext b (l ++ [some (some (.cells false N news))])) := by
  unfold aAppend
  simp only [hu, hi, hz, hs, hzc, if_true, hsrc, if_neg hk]
  rw [if_pos ⟨hb, hb2⟩, ext_size, ext_push]
end
theorem told_flat {m : Mem} {L : List (Option (Option Blk))} {v w : Value} (hv : flat 4 v = true) (h : v = w) : ToldB m 0 v (ext m L) fun u M => u = w ∧ M = m := by
  subst h
  refine ⟨_, rfl, [], rfl, ?_⟩
  have e : ren (sig m.size []) 4 v = some v := ren_flat 4 v hv
  simp only [e, withV_some, renMs, ext_nil, and_self]
theorem beqB_dec (a b : ByteArray) : beqB a b = decide (a = b) := by
  unfold beqB
  rw [Bool.eq_iff_iff, decide_eq_true_eq, beq_iff_eq]
  exact ⟨fun h => ByteArray.ext (Array.ext' h), fun h => by rw [h]⟩
end Go.Proofs.YtabffcplbjaklaaGreatDoor.Abs
namespace Go.Proofs.YtabffcplbjaklaaGreatDoor
open Go.RowKit Abs
theorem inf_Hdr : Tryz.prog.info? 40 = some Tryz.t40 := by kernel_rfl
theorem sz_Hdr : Tryz.t40.size = 7 := rfl
theorem ld_Hdr (get : Nat → Option Blk) (b o : Nat) : gLoad Tryz.prog get 40 (.pointer (some ⟨b, o, none⟩)) = rowIn 7 o (get b) := ld_row Tryz.underlying40 (row_struct _) inf_Hdr rfl get b o
theorem st_Hdr (m : Mem) (b o : Nat) (v : Value) : aStore Tryz.prog m 40 (.pointer (some ⟨b, o, none⟩)) v = putIn 7 m b o v.cells.toList (m.get b) := st_any inf_Hdr rfl m b o v
theorem al_Hdr : nAlloc Tryz.prog 40 = some (.cells false (aStride Tryz.prog 40) [.int .i64 0, .string ⟨#[]⟩, .int .i64 0, .int .i64 0, .int .i64 0, .string ⟨#[]⟩, .string ⟨#[]⟩]) := by kernel_rfl
theorem bx_Hdr (xs : Array Value) (h : oneAll xs.toList = true) : nBox Tryz.prog 40 (.agg xs) = some (.cells false (aStride Tryz.prog 40) xs.toList) := nBox_row 40 h
theorem fa_Hdr0 (b o : Nat) : aFieldAddr Tryz.prog 40 (.pointer (some ⟨b, o, none⟩)) 0 = some (.pointer (some ⟨b, o, none⟩)) := by kernel_rfl
theorem fa_Hdr1 (b o : Nat) : aFieldAddr Tryz.prog 40 (.pointer (some ⟨b, o, none⟩)) 1 = some (.pointer (some ⟨b, o + 1, none⟩)) := by kernel_rfl
theorem fa_Hdr2 (b o : Nat) : aFieldAddr Tryz.prog 40 (.pointer (some ⟨b, o, none⟩)) 2 = some (.pointer (some ⟨b, o + 2, none⟩)) := by kernel_rfl
theorem fa_Hdr3 (b o : Nat) : aFieldAddr Tryz.prog 40 (.pointer (some ⟨b, o, none⟩)) 3 = some (.pointer (some ⟨b, o + 3, none⟩)) := by kernel_rfl
theorem fa_Hdr4 (b o : Nat) : aFieldAddr Tryz.prog 40 (.pointer (some ⟨b, o, none⟩)) 4 = some (.pointer (some ⟨b, o + 4, none⟩)) := by kernel_rfl
theorem fa_Hdr5 (b o : Nat) : aFieldAddr Tryz.prog 40 (.pointer (some ⟨b, o, none⟩)) 5 = some (.pointer (some ⟨b, o + 5, none⟩)) := by kernel_rfl
theorem fa_Hdr6 (b o : Nat) : aFieldAddr Tryz.prog 40 (.pointer (some ⟨b, o, none⟩)) 6 = some (.pointer (some ⟨b, o + 6, none⟩)) := by kernel_rfl
theorem inf_I4 : Tryz.prog.info? 89 = some Tryz.t89 := by kernel_rfl
theorem sz_I4 : Tryz.t89.size = 4 := rfl
theorem ld_I4 (get : Nat → Option Blk) (b o : Nat) : gLoad Tryz.prog get 89 (.pointer (some ⟨b, o, none⟩)) = rowIn 4 o (get b) := ld_row Tryz.underlying89 (row_array _ _) inf_I4 rfl get b o
theorem st_I4 (m : Mem) (b o : Nat) (v : Value) : aStore Tryz.prog m 89 (.pointer (some ⟨b, o, none⟩)) v = putIn 4 m b o v.cells.toList (m.get b) := st_any inf_I4 rfl m b o v
theorem al_I4 : nAlloc Tryz.prog 89 = some (.cells false (aStride Tryz.prog 89) [.int .i64 0, .int .i64 0, .int .i64 0, .int .i64 0]) := by kernel_rfl
theorem inf_Str : Tryz.prog.info? 9 = some Tryz.t9 := by kernel_rfl
theorem sz_Str : Tryz.t9.size = 1 := rfl
theorem ld_Str (get : Nat → Option Blk) (b o : Nat) : gLoad Tryz.prog get 9 (.pointer (some ⟨b, o, none⟩)) = cellIn o (get b) := ld_cell Tryz.underlying9 rfl get b o
theorem st_Str (m : Mem) (b o : Nat) (v : Value) : aStore Tryz.prog m 9 (.pointer (some ⟨b, o, none⟩)) v = putIn 1 m b o v.cells.toList (m.get b) := st_any inf_Str rfl m b o v
theorem al_Str : nAlloc Tryz.prog 9 = some (.cells false (aStride Tryz.prog 9) [.string ⟨#[]⟩]) := by kernel_rfl
theorem inf_Int : Tryz.prog.info? 3 = some Tryz.t3 := by kernel_rfl
theorem sz_Int : Tryz.t3.size = 1 := rfl
theorem ld_Int (get : Nat → Option Blk) (b o : Nat) : gLoad Tryz.prog get 3 (.pointer (some ⟨b, o, none⟩)) = cellIn o (get b) := ld_cell Tryz.underlying3 rfl get b o
theorem st_Int (m : Mem) (b o : Nat) (v : Value) : aStore Tryz.prog m 3 (.pointer (some ⟨b, o, none⟩)) v = putIn 1 m b o v.cells.toList (m.get b) := st_any inf_Int rfl m b o v
theorem al_Int : nAlloc Tryz.prog 3 = some (.cells false (aStride Tryz.prog 3) [.int .i64 0]) := by kernel_rfl
theorem inf_Bool : Tryz.prog.info? 4 = some Tryz.t4 := by kernel_rfl
theorem sz_Bool : Tryz.t4.size = 1 := rfl
theorem ld_Bool (get : Nat → Option Blk) (b o : Nat) : gLoad Tryz.prog get 4 (.pointer (some ⟨b, o, none⟩)) = cellIn o (get b) := ld_cell Tryz.underlying4 rfl get b o
theorem st_Bool (m : Mem) (b o : Nat) (v : Value) : aStore Tryz.prog m 4 (.pointer (some ⟨b, o, none⟩)) v = putIn 1 m b o v.cells.toList (m.get b) := st_any inf_Bool rfl m b o v
theorem al_Bool : nAlloc Tryz.prog 4 = some (.cells false (aStride Tryz.prog 4) [.bool false]) := by kernel_rfl
theorem inf_SS : Tryz.prog.info? 59 = some Tryz.t59 := by kernel_rfl
theorem sz_SS : Tryz.t59.size = 1 := rfl
theorem ld_SS (get : Nat → Option Blk) (b o : Nat) : gLoad Tryz.prog get 59 (.pointer (some ⟨b, o, none⟩)) = cellIn o (get b) := ld_cell Tryz.underlying59 rfl get b o
theorem st_SS (m : Mem) (b o : Nat) (v : Value) : aStore Tryz.prog m 59 (.pointer (some ⟨b, o, none⟩)) v = putIn 1 m b o v.cells.toList (m.get b) := st_any inf_SS rfl m b o v
theorem al_SS : nAlloc Tryz.prog 59 = some (.cells false (aStride Tryz.prog 59) [.slice none 0 0]) := by kernel_rfl
theorem inf_Err : Tryz.prog.info? 25 = some Tryz.t25 := by kernel_rfl
theorem sz_Err : Tryz.t25.size = 1 := rfl
theorem ld_Err (get : Nat → Option Blk) (b o : Nat) : gLoad Tryz.prog get 25 (.pointer (some ⟨b, o, none⟩)) = cellIn o (get b) := ld_cell Tryz.underlying25 rfl get b o
theorem st_Err (m : Mem) (b o : Nat) (v : Value) : aStore Tryz.prog m 25 (.pointer (some ⟨b, o, none⟩)) v = putIn 1 m b o v.cells.toList (m.get b) := st_any inf_Err rfl m b o v
theorem al_Err : nAlloc Tryz.prog 25 = some (.cells false (aStride Tryz.prog 25) [.int .i64 0]) := by kernel_rfl
theorem inf_Hdrs : Tryz.prog.info? 22 = some Tryz.t22 := by kernel_rfl
theorem sz_Hdrs : Tryz.t22.size = 1 := rfl
theorem ld_Hdrs (get : Nat → Option Blk) (b o : Nat) : gLoad Tryz.prog get 22 (.pointer (some ⟨b, o, none⟩)) = cellIn o (get b) := ld_cell Tryz.underlying22 rfl get b o
theorem st_Hdrs (m : Mem) (b o : Nat) (v : Value) : aStore Tryz.prog m 22 (.pointer (some ⟨b, o, none⟩)) v = putIn 1 m b o v.cells.toList (m.get b) := st_any inf_Hdrs rfl m b o v
theorem al_Hdrs : nAlloc Tryz.prog 22 = some (.cells false (aStride Tryz.prog 22) [.slice none 0 0]) := by kernel_rfl
theorem inf_Ints : Tryz.prog.info? 35 = some Tryz.t35 := by kernel_rfl
theorem sz_Ints : Tryz.t35.size = 1 := rfl
theorem ld_Ints (get : Nat → Option Blk) (b o : Nat) : gLoad Tryz.prog get 35 (.pointer (some ⟨b, o, none⟩)) = cellIn o (get b) := ld_cell Tryz.underlying35 rfl get b o
theorem st_Ints (m : Mem) (b o : Nat) (v : Value) : aStore Tryz.prog m 35 (.pointer (some ⟨b, o, none⟩)) v = putIn 1 m b o v.cells.toList (m.get b) := st_any inf_Ints rfl m b o v
theorem al_Ints : nAlloc Tryz.prog 35 = some (.cells false (aStride Tryz.prog 35) [.slice none 0 0]) := by kernel_rfl
theorem cl_int (k : IntKind) (n : Int) : (Value.int k n).cells.toList = [.int k n] := rfl
theorem oc_int (k : IntKind) (n : Int) : (Value.int k n).oneCell' = true := rfl
theorem cl_string (s : ByteArray) : (Value.string s).cells.toList = [.string s] := rfl
theorem oc_string (s : ByteArray) : (Value.string s).oneCell' = true := rfl
theorem cl_bool (b : Bool) : (Value.bool b).cells.toList = [.bool b] := rfl
theorem oc_bool (b : Bool) : (Value.bool b).oneCell' = true := rfl
theorem cl_sl (a : Option Addr) (n c : Nat) : (Value.slice a n c).cells.toList = [.slice a n c] := rfl
theorem oc_sl (a : Option Addr) (n c : Nat) : (Value.slice a n c).oneCell' = true := rfl
theorem cl_pt (a : Option Addr) : (Value.pointer a).cells.toList = [.pointer a] := rfl
theorem oc_pt (a : Option Addr) : (Value.pointer a).oneCell' = true := rfl
theorem cl_mp (a : Option Nat) : (Value.map a).cells.toList = [.map a] := rfl
theorem oc_mp (a : Option Nat) : (Value.map a).oneCell' = true := rfl
theorem oa_cons (v : Value) (r : List Value) : oneAll (v :: r) = (v.oneCell' && oneAll r) := rfl
theorem oa_nil : oneAll [] = true := rfl
theorem g_nt : ((none : Option Bool) == some true) = false := rfl
theorem g_nf : ((none : Option Bool) == some false) = false := rfl
theorem undef_eq : undef = .tuple #[] := rfl
theorem ta_v (l : List Value) : l.toArray.toList = l := rfl
theorem rw_1_0_1 (r : Bool) (s : Nat) (a0 : Value) : rowIn 1 0 (some (.cells r s [a0])) = some (.agg #[a0]) := rfl
theorem pt_1_0_1 (m : Mem) (j s : Nat) (a0 x0 : Value) (h : oneAll [x0] = true) : putIn 1 m j 0 [x0] (some (.cells false s [a0])) = some (m.set j (some (.cells false s [x0]))) := if_pos ⟨rfl, Nat.le_of_ble_eq_true rfl, h⟩
theorem rw_4_0_4 (r : Bool) (s : Nat) (a0 a1 a2 a3 : Value) : rowIn 4 0 (some (.cells r s [a0, a1, a2, a3])) = some (.agg #[a0, a1, a2, a3]) := rfl
theorem pt_4_0_4 (m : Mem) (j s : Nat) (a0 a1 a2 a3 x0 x1 x2 x3 : Value) (h : oneAll [x0, x1, x2, x3] = true) : putIn 4 m j 0 [x0, x1, x2, x3] (some (.cells false s [a0, a1, a2, a3])) = some (m.set j (some (.cells false s [x0, x1, x2, x3]))) := if_pos ⟨rfl, Nat.le_of_ble_eq_true rfl, h⟩
theorem pt_4_0_1 (m : Mem) (j s : Nat) (a0 a1 a2 a3 x0 : Value) (h : oneAll [x0] = true) : putIn 1 m j 0 [x0] (some (.cells false s [a0, a1, a2, a3])) = some (m.set j (some (.cells false s [x0, a1, a2, a3]))) := if_pos ⟨rfl, Nat.le_of_ble_eq_true rfl, h⟩
theorem pt_4_1_1 (m : Mem) (j s : Nat) (a0 a1 a2 a3 x0 : Value) (h : oneAll [x0] = true) : putIn 1 m j 1 [x0] (some (.cells false s [a0, a1, a2, a3])) = some (m.set j (some (.cells false s [a0, x0, a2, a3]))) := if_pos ⟨rfl, Nat.le_of_ble_eq_true rfl, h⟩
theorem pt_4_2_1 (m : Mem) (j s : Nat) (a0 a1 a2 a3 x0 : Value) (h : oneAll [x0] = true) : putIn 1 m j 2 [x0] (some (.cells false s [a0, a1, a2, a3])) = some (m.set j (some (.cells false s [a0, a1, x0, a3]))) := if_pos ⟨rfl, Nat.le_of_ble_eq_true rfl, h⟩
theorem pt_4_3_1 (m : Mem) (j s : Nat) (a0 a1 a2 a3 x0 : Value) (h : oneAll [x0] = true) : putIn 1 m j 3 [x0] (some (.cells false s [a0, a1, a2, a3])) = some (m.set j (some (.cells false s [a0, a1, a2, x0]))) := if_pos ⟨rfl, Nat.le_of_ble_eq_true rfl, h⟩
theorem rw_7_0_7 (r : Bool) (s : Nat) (a0 a1 a2 a3 a4 a5 a6 : Value) : rowIn 7 0 (some (.cells r s [a0, a1, a2, a3, a4, a5, a6])) = some (.agg #[a0, a1, a2, a3, a4, a5, a6]) := rfl
theorem pt_7_0_7 (m : Mem) (j s : Nat) (a0 a1 a2 a3 a4 a5 a6 x0 x1 x2 x3 x4 x5 x6 : Value) (h : oneAll [x0, x1, x2, x3, x4, x5, x6] = true) : putIn 7 m j 0 [x0, x1, x2, x3, x4, x5, x6] (some (.cells false s [a0, a1, a2, a3, a4, a5, a6])) = some (m.set j (some (.cells false s [x0, x1, x2, x3, x4, x5, x6]))) := if_pos ⟨rfl, Nat.le_of_ble_eq_true rfl, h⟩
theorem pt_7_0_1 (m : Mem) (j s : Nat) (a0 a1 a2 a3 a4 a5 a6 x0 : Value) (h : oneAll [x0] = true) : putIn 1 m j 0 [x0] (some (.cells false s [a0, a1, a2, a3, a4, a5, a6])) = some (m.set j (some (.cells false s [x0, a1, a2, a3, a4, a5, a6]))) := if_pos ⟨rfl, Nat.le_of_ble_eq_true rfl, h⟩
theorem pt_7_1_1 (m : Mem) (j s : Nat) (a0 a1 a2 a3 a4 a5 a6 x0 : Value) (h : oneAll [x0] = true) : putIn 1 m j 1 [x0] (some (.cells false s [a0, a1, a2, a3, a4, a5, a6])) = some (m.set j (some (.cells false s [a0, x0, a2, a3, a4, a5, a6]))) := if_pos ⟨rfl, Nat.le_of_ble_eq_true rfl, h⟩
theorem pt_7_2_1 (m : Mem) (j s : Nat) (a0 a1 a2 a3 a4 a5 a6 x0 : Value) (h : oneAll [x0] = true) : putIn 1 m j 2 [x0] (some (.cells false s [a0, a1, a2, a3, a4, a5, a6])) = some (m.set j (some (.cells false s [a0, a1, x0, a3, a4, a5, a6]))) := if_pos ⟨rfl, Nat.le_of_ble_eq_true rfl, h⟩
theorem pt_7_3_1 (m : Mem) (j s : Nat) (a0 a1 a2 a3 a4 a5 a6 x0 : Value) (h : oneAll [x0] = true) : putIn 1 m j 3 [x0] (some (.cells false s [a0, a1, a2, a3, a4, a5, a6])) = some (m.set j (some (.cells false s [a0, a1, a2, x0, a4, a5, a6]))) := if_pos ⟨rfl, Nat.le_of_ble_eq_true rfl, h⟩
theorem pt_7_4_1 (m : Mem) (j s : Nat) (a0 a1 a2 a3 a4 a5 a6 x0 : Value) (h : oneAll [x0] = true) : putIn 1 m j 4 [x0] (some (.cells false s [a0, a1, a2, a3, a4, a5, a6])) = some (m.set j (some (.cells false s [a0, a1, a2, a3, x0, a5, a6]))) := if_pos ⟨rfl, Nat.le_of_ble_eq_true rfl, h⟩
theorem pt_7_5_1 (m : Mem) (j s : Nat) (a0 a1 a2 a3 a4 a5 a6 x0 : Value) (h : oneAll [x0] = true) : putIn 1 m j 5 [x0] (some (.cells false s [a0, a1, a2, a3, a4, a5, a6])) = some (m.set j (some (.cells false s [a0, a1, a2, a3, a4, x0, a6]))) := if_pos ⟨rfl, Nat.le_of_ble_eq_true rfl, h⟩
theorem pt_7_6_1 (m : Mem) (j s : Nat) (a0 a1 a2 a3 a4 a5 a6 x0 : Value) (h : oneAll [x0] = true) : putIn 1 m j 6 [x0] (some (.cells false s [a0, a1, a2, a3, a4, a5, a6])) = some (m.set j (some (.cells false s [a0, a1, a2, a3, a4, a5, x0]))) := if_pos ⟨rfl, Nat.le_of_ble_eq_true rfl, h⟩
def zMn := And.intro (And.intro (And.intro (And.intro (And.intro (And.intro (@inf_Hdr) (And.intro (@sz_Hdr) (@ld_Hdr))) (And.intro (@st_Hdr) (And.intro (@al_Hdr) (@fa_Hdr0)))) (And.intro (And.intro (@fa_Hdr1) (And.intro (@fa_Hdr2) (@fa_Hdr3))) (And.intro (And.intro (@fa_Hdr4) (@fa_Hdr5)) (And.intro (@fa_Hdr6) (@inf_I4))))) (And.intro (And.intro (And.intro (@sz_I4) (And.intro (@ld_I4) (@st_I4))) (And.intro (@al_I4) (And.intro (@inf_Str) (@sz_Str)))) (And.intro (And.intro (@ld_Str) (And.intro (@st_Str) (@al_Str))) (And.intro (And.intro (@inf_Int) (@sz_Int)) (And.intro (@ld_Int) (@st_Int)))))) (And.intro (And.intro (And.intro (And.intro (@al_Int) (And.intro (@inf_Bool) (@sz_Bool))) (And.intro (@ld_Bool) (And.intro (@st_Bool) (@al_Bool)))) (And.intro (And.intro (@inf_SS) (And.intro (@sz_SS) (@ld_SS))) (And.intro (And.intro (@st_SS) (@al_SS)) (And.intro (@inf_Err) (@sz_Err))))) (And.intro (And.intro (And.intro (@ld_Err) (And.intro (@st_Err) (@al_Err))) (And.intro (@inf_Hdrs) (And.intro (@sz_Hdrs) (@ld_Hdrs)))) (And.intro (And.intro (@st_Hdrs) (And.intro (@al_Hdrs) (@inf_Ints))) (And.intro (And.intro (@sz_Ints) (@ld_Ints)) (And.intro (@st_Ints) (@al_Ints))))))) (And.intro (And.intro (And.intro (And.intro (And.intro (Tryz.underlying9) (And.intro (Tryz.underlying3) (Tryz.underlying4))) (And.intro (Tryz.underlying5) (And.intro (Tryz.underlying85) (Tryz.underlying77)))) (And.intro (And.intro (Tryz.underlying59) (And.intro (Tryz.underlying25) (Tryz.underlying44))) (And.intro (And.intro (Tryz.underlying22) (Tryz.underlying35)) (And.intro (Tryz.underlying40) (Tryz.underlying89))))) (And.intro (And.intro (And.intro (@cl_int) (And.intro (@oc_int) (@cl_string))) (And.intro (@oc_string) (And.intro (@cl_bool) (@oc_bool)))) (And.intro (And.intro (@cl_sl) (And.intro (@oc_sl) (@cl_pt))) (And.intro (And.intro (@oc_pt) (@cl_mp)) (And.intro (@oc_mp) (@oa_cons)))))) (And.intro (And.intro (And.intro (And.intro (@oa_nil) (And.intro (@g_nt) (@g_nf))) (And.intro (@undef_eq) (And.intro (@ta_v) (@Bool.and_self)))) (And.intro (And.intro (@Bool.true_and) (And.intro (@agg_cells) (@setL.eq_1))) (And.intro (And.intro (@setL.eq_2) (@rw_1_0_1)) (And.intro (@pt_1_0_1) (@rw_4_0_4))))) (And.intro (And.intro (And.intro (@pt_4_0_4) (And.intro (@pt_4_0_1) (@pt_4_1_1))) (And.intro (And.intro (@pt_4_2_1) (@pt_4_3_1)) (And.intro (@rw_7_0_7) (@pt_7_0_7)))) (And.intro (And.intro (@pt_7_0_1) (And.intro (@pt_7_1_1) (@pt_7_2_1))) (And.intro (And.intro (@pt_7_3_1) (@pt_7_4_1)) (And.intro (@pt_7_5_1) (@pt_7_6_1)))))))
end Go.Proofs.YtabffcplbjaklaaGreatDoor
namespace Go.Proofs.YtabffcplbjaklaaGreatDoor.Stab
section
variable {α : Type} (key : α → Int)
def Rising (l : List α) : Prop := l.Pairwise fun a b => key a ≤ key b
def ofKey (k : Int) (l : List α) : List α := l.filter fun a => key a == k
structure Stable (l r : List α) : Prop where
  rising : Rising key r
  keys : ∀ k, ofKey key k r = ofKey key k l
  len : r.length = l.length
theorem ofKey_app (k : Int) (a b : List α) : ofKey key k (a ++ b) = ofKey key k a ++ ofKey key k b := List.filter_append ..
theorem mem_ofKey {k : Int} {l : List α} {a : α} : a ∈ ofKey key k l ↔ a ∈ l ∧ key a = k := by
  unfold ofKey; rw [List.mem_filter, beq_iff_eq]
theorem ofKey_nil_of {k : Int} {l : List α} (h : ∀ a ∈ l, key a ≠ k) : ofKey key k l = [] := by
  unfold ofKey
  rw [List.filter_eq_nil_iff]
  intro a ha
  rw [beq_iff_eq]
  exact h a ha
theorem Stable.mem {l r : List α} (h : Stable key l r) (a : α) : a ∈ r ↔ a ∈ l := by
  constructor
  · intro ha
    have : a ∈ ofKey key (key a) r := (mem_ofKey key).2 ⟨ha, rfl⟩
    rw [h.keys] at this
    exact ((mem_ofKey key).1 this).1
  · intro ha
    have : a ∈ ofKey key (key a) l := (mem_ofKey key).2 ⟨ha, rfl⟩
    rw [← h.keys] at this
    exact ((mem_ofKey key).1 this).1
theorem Stable.refl {l : List α} (h : Rising key l) : Stable key l l := ⟨h, fun _ => rfl, rfl⟩
theorem Stable.trans {a b c : List α} (h : Stable key a b) (g : Stable key b c) : Stable key a c := ⟨g.rising, fun k => (g.keys k).trans (h.keys k), g.len.trans h.len⟩
theorem Stable.of_keys {a b c : List α} (h : ∀ k, ofKey key k b = ofKey key k a) (hl : b.length = a.length) (g : Stable key b c) : Stable key a c := ⟨g.rising, fun k => (g.keys k).trans (h k), g.len.trans hl⟩
theorem rising_unique : ∀ {r r' : List α}, Rising key r → Rising key r' → (∀ k, ofKey key k r = ofKey key k r') → r = r'
  | [], r', _, _, h => by
    cases r' with
    | nil => rfl
    | cons b t =>
      have := h (key b)
      have hb : b ∈ ofKey key (key b) (b :: t) := (mem_ofKey key).2 ⟨by simp, rfl⟩
      rw [← this] at hb
      cases hb
  | a :: r, r', h1, h2, h => by
    cases r' with
    | nil =>
      have := h (key a)
      have ha : a ∈ ofKey key (key a) (a :: r) := (mem_ofKey key).2 ⟨by simp, rfl⟩
      rw [this] at ha
      cases ha
    | cons b t =>
      have h1' := List.pairwise_cons.1 h1
      have h2' := List.pairwise_cons.1 h2
      have kab : key a = key b := by
        have ha : a ∈ ofKey key (key a) (b :: t) := by rw [← h]; exact (mem_ofKey key).2 ⟨by simp, rfl⟩
        have hb : b ∈ ofKey key (key b) (a :: r) := by rw [h]; exact (mem_ofKey key).2 ⟨by simp, rfl⟩
        have ha := ((mem_ofKey key).1 ha).1
        have hb := ((mem_ofKey key).1 hb).1
        have e1 : key b ≤ key a := by
          rcases List.mem_cons.1 ha with rfl | ha
          · exact Int.le_refl _
          · exact h2'.1 a ha
        have e2 : key a ≤ key b := by
          rcases List.mem_cons.1 hb with rfl | hb
          · exact Int.le_refl _
          · exact h1'.1 b hb
        omega
      have hab : a = b ∧ ofKey key (key a) r = ofKey key (key a) t := by
        have := h (key a)
        unfold ofKey at this
        rw [List.filter_cons_of_pos (by simp), List.filter_cons_of_pos (by simp [kab])] at this
        exact ⟨(List.cons.inj this).1, (List.cons.inj this).2⟩
      obtain ⟨rfl, _⟩ := hab
      congr 1
      refine rising_unique h1'.2 h2'.2 fun k => ?_
      have := h k
      unfold ofKey at this ⊢
      by_cases hk : key a = k
      · rw [List.filter_cons_of_pos (by simp [hk]), List.filter_cons_of_pos (by simp [hk])] at this
        exact (List.cons.inj this).2
      · rw [List.filter_cons_of_neg (by simp [hk]), List.filter_cons_of_neg (by simp [hk])] at this
        exact this
theorem Stable.unique {l r r' : List α} (h : Stable key l r) (h' : Stable key l r') : r = r' := rising_unique key h.rising h'.rising fun k => (h.keys k).trans (h'.keys k).symm
theorem Rising.app {a b : List α} (ha : Rising key a) (hb : Rising key b) (h : ∀ x ∈ a, ∀ y ∈ b, key x ≤ key y) : Rising key (a ++ b) := List.pairwise_append.2 ⟨ha, hb, h⟩
theorem Rising.parts {a b : List α} (h : Rising key (a ++ b)) : Rising key a ∧ Rising key b ∧ ∀ x ∈ a, ∀ y ∈ b, key x ≤ key y := List.pairwise_append.1 h
theorem ofKey_swap {a b : List α} (h : ∀ x ∈ a, ∀ y ∈ b, key x ≠ key y) (k : Int) : ofKey key k (a ++ b) = ofKey key k (b ++ a) := by
  rw [ofKey_app, ofKey_app]
  by_cases ha : ∃ x ∈ a, key x = k
  · obtain ⟨x, hx, rfl⟩ := ha
    have hb : ofKey key (key x) b = [] := ofKey_nil_of key fun y hy e => h x hx y hy e.symm
    rw [hb, List.nil_append, List.append_nil]
  · have ha : ofKey key k a = [] := ofKey_nil_of key fun x hx e => ha ⟨x, hx, e⟩
    rw [ha, List.nil_append, List.append_nil]
theorem merge_step {x1 x2 y1 y2 r1 r2 : List α} (hx : Rising key (x1 ++ x2)) (hy : Rising key (y1 ++ y2)) (hlt : ∀ x ∈ x2, ∀ y ∈ y1, key y < key x) (hle : ∀ x ∈ x1, ∀ y ∈ y2, key x ≤ key y)
    (h1 : Stable key (x1 ++ y1) r1) (h2 : Stable key (x2 ++ y2) r2) : Stable key ((x1 ++ x2) ++ (y1 ++ y2)) (r1 ++ r2) := by
  refine ⟨Rising.app key h1.rising h2.rising fun x hx' y hy' => ?_, fun k => ?_, by have := h1.len; have := h2.len; simp only [List.length_append] at *; omega⟩
  · rw [h1.mem, List.mem_append] at hx'
    rw [h2.mem, List.mem_append] at hy'
    rcases hx' with hx' | hx' <;> rcases hy' with hy' | hy'
    · exact (Rising.parts key hx).2.2 x hx' y hy'
    · exact hle x hx' y hy'
    · exact Int.le_of_lt (hlt y hy' x hx')
    · exact (Rising.parts key hy).2.2 x hx' y hy'
  · rw [ofKey_app, h1.keys, h2.keys]
    have := ofKey_swap key (a := x2) (b := y1) (fun x hx y hy e => by have := hlt x hx y hy; omega) k
    rw [ofKey_app, ofKey_app] at this
    simp only [ofKey_app, List.append_assoc]
    rw [← List.append_assoc (ofKey key k x2), this, List.append_assoc]
theorem insert_left {x : α} {y1 y2 : List α} (hy : Rising key (y1 ++ y2)) (h1 : ∀ y ∈ y1, key y < key x) (h2 : ∀ y ∈ y2, key x ≤ key y) : Stable key (x :: (y1 ++ y2)) (y1 ++ x :: y2) := by
  obtain ⟨a, b, c⟩ := Rising.parts key hy
  refine ⟨Rising.app key a (List.pairwise_cons.2 ⟨h2, b⟩) fun z hz w hw => ?_, fun k => ?_, by simp <;> omega⟩
  · rcases List.mem_cons.1 hw with rfl | hw
    · exact Int.le_of_lt (h1 z hz)
    · exact c z hz w hw
  · have := ofKey_swap key (a := [x]) (b := y1) (fun z hz w hw e => by simp only [List.mem_singleton] at hz; subst hz; have := h1 w hw; omega) k
    rw [show y1 ++ x :: y2 = (y1 ++ [x]) ++ y2 by simp, show x :: (y1 ++ y2) = ([x] ++ y1) ++ y2 by simp, ofKey_app, ← this, ← ofKey_app]
theorem insert_right {y : α} {x1 x2 : List α} (hx : Rising key (x1 ++ x2)) (h1 : ∀ x ∈ x1, key x ≤ key y) (h2 : ∀ x ∈ x2, key y < key x) : Stable key (x1 ++ x2 ++ [y]) (x1 ++ y :: x2) := by
  obtain ⟨a, b, c⟩ := Rising.parts key hx
  refine ⟨Rising.app key a (List.pairwise_cons.2 ⟨fun z hz => Int.le_of_lt (h2 z hz), b⟩) fun z hz w hw => ?_, fun k => ?_, by simp <;> omega⟩
  · rcases List.mem_cons.1 hw with rfl | hw
    · exact h1 z hz
    · exact c z hz w hw
  · have := ofKey_swap key (a := x2) (b := [y]) (fun z hz w hw e => by simp only [List.mem_singleton] at hw; subst hw; have := h2 z hz; omega) k
    rw [show x1 ++ y :: x2 = x1 ++ ([y] ++ x2) by simp, List.append_assoc, ofKey_app, ← this, ← ofKey_app]
theorem Stable.app {a b a' b' r : List α} (ha : Stable key a a') (hb : Stable key b b') (h : Stable key (a' ++ b') r) : Stable key (a ++ b) r :=
  h.of_keys key (fun k => by rw [ofKey_app, ofKey_app, ha.keys, hb.keys]) (by rw [List.length_append, List.length_append, ha.len, hb.len])
def seg (s t : Nat) (l : List α) : List α := (l.drop (t * s)).take s
def Blocks (s : Nat) (l r : List α) : Prop := ∀ t, Stable key (seg s t l) (seg s t r)
theorem seg_two (s t : Nat) (l : List α) : seg (2 * s) t l = seg s (2 * t) l ++ seg s (2 * t + 1) l := by
  unfold seg
  rw [show 2 * s = s + s by omega, List.take_add, List.drop_drop]
  congr 3
  · rw [Nat.mul_add, Nat.mul_comm 2 t, Nat.mul_assoc, Nat.two_mul, Nat.mul_add]
  · rw [Nat.add_mul, Nat.mul_add, Nat.mul_comm 2 t, Nat.mul_assoc, Nat.two_mul, Nat.mul_add, Nat.one_mul]
theorem part_same {a x r b : List α} (h : r.length = x.length) {p q : Nat} (hp : p + q ≤ a.length ∨ a.length + x.length ≤ p) : ((a ++ r ++ b).drop p).take q = ((a ++ x ++ b).drop p).take q := by
  apply List.ext_getElem?
  intro i
  rw [List.getElem?_take, List.getElem?_take]
  split
  · rw [List.getElem?_drop, List.getElem?_drop]
    rcases hp with hp | hp
    · rw [List.append_assoc, List.append_assoc, List.getElem?_append_left (by omega), List.getElem?_append_left (by omega)]
    · rw [List.getElem?_append_right (by rw [List.length_append]; omega), List.getElem?_append_right (by rw [List.length_append]; omega)]
      rw [List.length_append, List.length_append, h]
  · rfl
theorem seg_nil {s t : Nat} {l : List α} (h : l.length ≤ t * s) : seg s t l = [] := by
  unfold seg
  rw [List.drop_eq_nil_of_le h, List.take_nil]
theorem Blocks.all {s : Nat} {l r : List α} (h : Blocks key s l r) (hl : l.length ≤ s) (hr : r.length = l.length) : Stable key l r := by
  have h0 := h 0
  unfold seg at h0
  rw [Nat.zero_mul, List.drop_zero, List.drop_zero, List.take_of_length_le hl, List.take_of_length_le (by omega)] at h0
  exact h0
end
end Go.Proofs.YtabffcplbjaklaaGreatDoor.Stab
namespace Go.Proofs.YtabffcplbjaklaaGreatDoor
open Go.RowKit Abs
theorem setL_in : ∀ (a b c : List Value), b.length ≤ c.length → setL (a ++ c) a.length b = a ++ b ++ c.drop b.length
  | [], [], c, _ => by simp [setL]
  | a, x :: b, [], h => by simp at h
  | a, [], c, _ => by simp [setL]
  | a, x :: b, y :: c, h => by
    have ih := setL_in (a ++ [x]) b c (by simpa using h)
    rw [setL]
    have e : (a ++ y :: c).set a.length x = (a ++ [x]) ++ c := by simp
    rw [e]
    simp only [List.length_append, List.length_cons, List.length_nil] at ih
    rw [ih]
    simp
theorem split_at {α : Type} {xs : List α} {k : Nat} {x : α} (hx : xs[k]? = some x) : ∃ P Q, xs = P ++ x :: Q ∧ P.length = k := by
  obtain ⟨h1, h2⟩ := List.getElem?_eq_some_iff.1 hx
  refine ⟨xs.take k, xs.drop (k + 1), ?_, by rw [List.length_take]; omega⟩
  rw [← h2, List.getElem_cons_drop, List.take_append_drop]
theorem set_mid {α : Type} (P Q : List α) (x y : α) : (P ++ x :: Q).set P.length y = P ++ y :: Q := by
  rw [List.set_append_right _ _ (Nat.le_refl _), Nat.sub_self, List.set_cons_zero]
theorem putIn_at {α : Type} {n : Nat} {f : α → List Value} {xs : List α} (hl : ∀ x ∈ xs, (f x).length = n) {k : Nat} {x : α} (hx : xs[k]? = some x) (y : α) (hy : (f y).length = n) (ho : oneAll (f y) = true) (m : Mem) (g s : Nat) :
    putIn n m g (k * n) (f y) (some (.cells false s (xs.flatMap f))) = some (m.set g (some (.cells false s ((xs.set k y).flatMap f)))) := by
  obtain ⟨P, Q, rfl, rfl⟩ := split_at hx
  rw [set_mid]
  have hP : (P.flatMap f).length = P.length * n := flatMap_len f n P fun x hx => hl x (by simp [hx])
  have hxl : (f x).length = n := hl x (by simp)
  unfold putIn
  simp only [List.flatMap_append, List.flatMap_cons]
  rw [if_pos ⟨hy, by simp only [List.length_append]; omega, ho⟩, ← hP]
  rw [setL_in _ _ _ (by simp only [List.length_append]; omega), hy, ← hxl, List.drop_left, List.append_assoc]
end Go.Proofs.YtabffcplbjaklaaGreatDoor
namespace Go.Proofs.YtabffcplbjaklaaGreatDoor.Stab
section
variable {α : Type} (key : α → Int)
theorem seg_mid {s t : Nat} {a x b : List α} (ha : a.length = t * s) (hx : x.length = s ∨ (x.length ≤ s ∧ b = [])) : seg s t (a ++ x ++ b) = x := by
  unfold seg
  rw [List.append_assoc, List.drop_append_of_le_length (by omega), ← ha, List.drop_length, List.nil_append]
  rcases hx with hx | ⟨hx, rfl⟩
  · rw [← hx, List.take_left]
  · rw [List.append_nil, List.take_of_length_le hx]
theorem seg_same {a x r b : List α} (h : r.length = x.length) {s u : Nat} (hu : (u + 1) * s ≤ a.length ∨ a.length + x.length ≤ u * s) : seg s u (a ++ r ++ b) = seg s u (a ++ x ++ b) := by
  unfold seg
  exact part_same h (by rw [Nat.add_mul, Nat.one_mul] at hu; exact hu)
structure Firsts (s t : Nat) (l d : List α) : Prop where
  done : ∀ u, u < t → Stable key (seg s u l) (seg s u d)
  rest : d.drop (t * s) = l.drop (t * s)
  len : d.length = l.length
theorem Firsts.start (s : Nat) (l : List α) : Firsts key s 0 l l := ⟨fun u h => by omega, rfl, rfl⟩
theorem Firsts.step {s t : Nat} {l a x b r : List α} (h : Firsts key s t l (a ++ x ++ b)) (ha : a.length = t * s) (hx : x.length = s ∨ (x.length ≤ s ∧ b = [])) (hr : Stable key x r) : Firsts key s (t + 1) l (a ++ r ++ b) := by
  have hl := hr.len
  have hlx : seg s t l = x := by
    have e := h.rest
    rw [List.append_assoc, List.drop_append_of_le_length (by omega), ← ha, List.drop_length, List.nil_append] at e
    unfold seg
    rw [← ha, ← e]
    rcases hx with hx | ⟨hx, rfl⟩
    · rw [← hx, List.take_left]
    · rw [List.append_nil, List.take_of_length_le hx]
  refine ⟨fun u hu => ?_, ?_, by rw [← h.len]; simp only [List.length_append]; omega⟩
  · by_cases e : u = t
    · subst e
      rw [hlx, seg_mid ha (by rw [hl]; exact hx)]
      exact hr
    · rw [seg_same hl (.inl (by rw [ha]; exact Nat.mul_le_mul_right s (by omega)))]
      exact h.done u (by omega)
  · have e := h.rest
    have dr : ∀ z : List α, (a ++ z ++ b).drop (t * s) = z ++ b := fun z => by rw [List.append_assoc, ← ha, List.drop_left]
    rw [Nat.add_mul, Nat.one_mul, ← List.drop_drop, ← List.drop_drop, ← e, dr, dr]
    rcases hx with hx | ⟨hx, rfl⟩
    · rw [← hx, List.drop_left, ← hl, List.drop_left]
    · rw [List.append_nil, List.append_nil, List.drop_eq_nil_of_le hx, List.drop_eq_nil_of_le (by omega)]
theorem Firsts.end {s t : Nat} {l d : List α} (h : Firsts key s t l d) (hn : l.length ≤ t * s) : Blocks key s l d := by
  intro u
  by_cases hu : u < t
  · exact h.done u hu
  · have : t * s ≤ u * s := Nat.mul_le_mul_right s (by omega)
    have := h.len
    rw [seg_nil (by omega), seg_nil (by omega)]
    exact Stable.refl key List.Pairwise.nil
structure Half (s t : Nat) (l d : List α) : Prop where
  done : ∀ u, u < t → Stable key (seg (2 * s) u l) (seg (2 * s) u d)
  rest : ∀ u, 2 * t ≤ u → Stable key (seg s u l) (seg s u d)
  len : d.length = l.length
theorem Half.start {s : Nat} {l d : List α} (h : Blocks key s l d) (hl : d.length = l.length) : Half key s 0 l d := ⟨fun u h => by omega, fun u _ => h u, hl⟩
theorem Half.step {s t : Nat} {l a x y b r : List α} (h : Half key s t l (a ++ (x ++ y) ++ b)) (ha : a.length = t * (2 * s)) (hx : x.length = s) (hy : y.length = s ∨ (y.length ≤ s ∧ b = [])) (hr : Stable key (x ++ y) r) : Half key s (t + 1) l (a ++ r ++ b) := by
  have hl := hr.len
  have e2 : t * (2 * s) = 2 * t * s := by rw [← Nat.mul_assoc, Nat.mul_comm t 2]
  have sx : seg s (2 * t) (a ++ (x ++ y) ++ b) = x := by
    have := seg_mid (s := s) (t := 2 * t) (a := a) (x := x) (b := y ++ b) (by omega) (.inl hx)
    simpa only [List.append_assoc] using this
  have sy : seg s (2 * t + 1) (a ++ (x ++ y) ++ b) = y := by
    have := seg_mid (s := s) (t := 2 * t + 1) (a := a ++ x) (x := y) (b := b) (by rw [List.length_append, Nat.add_mul]; omega) hy
    simpa only [List.append_assoc] using this
  have h1 := h.rest (2 * t) (Nat.le_refl _)
  have h2 := h.rest (2 * t + 1) (by omega)
  rw [sx] at h1
  rw [sy] at h2
  have hxy : (x ++ y).length = 2 * s ∨ ((x ++ y).length ≤ 2 * s ∧ b = []) := by
    rw [List.length_append]
    rcases hy with hy | ⟨hy, hb⟩
    · exact .inl (by omega)
    · exact .inr ⟨by omega, hb⟩
  refine ⟨fun u hu => ?_, fun u hu => ?_, by rw [← h.len]; simp only [List.length_append] at *; omega⟩
  · by_cases e : u = t
    · subst e
      rw [seg_two s u l, seg_mid ha (by rw [hl]; exact hxy)]
      exact Stable.app key h1 h2 hr
    · rw [seg_same hl (.inl (by rw [ha]; exact Nat.mul_le_mul_right _ (by omega)))]
      exact h.done u (by omega)
  · have hu2 : (2 * t + 2) * s ≤ u * s := Nat.mul_le_mul_right s (by omega)
    rw [Nat.add_mul] at hu2
    rw [seg_same hl (.inr (by rcases hxy with h | ⟨h, _⟩ <;> omega))]
    exact h.rest u (by omega)
theorem Half.end {s t : Nat} {l d : List α} (h : Half key s t l d) (hn : l.length ≤ t * (2 * s) + s) : Blocks key (2 * s) l d := by
  intro u
  by_cases hu : u < t
  · exact h.done u hu
  · have h1 : t * (2 * s) ≤ u * (2 * s) := Nat.mul_le_mul_right _ (by omega)
    have e2 : u * (2 * s) = 2 * u * s := by rw [← Nat.mul_assoc, Nat.mul_comm u 2]
    have hl := h.len
    have n1 : seg s (2 * u + 1) l = [] := seg_nil (by rw [Nat.add_mul]; omega)
    have n2 : seg s (2 * u + 1) d = [] := seg_nil (by rw [Nat.add_mul]; omega)
    rw [seg_two, seg_two, n1, n2, List.append_nil, List.append_nil]
    exact h.rest (2 * u) (by omega)
end
end Go.Proofs.YtabffcplbjaklaaGreatDoor.Stab
namespace Go.Proofs.YtabffcplbjaklaaGreatDoor.Abs
open Go
theorem wri {x : Int} (h0 : -9223372036854775808 ≤ x) (h1 : x ≤ 9223372036854775807) : IntKind.i64.wrap x = x := by
  unfold IntKind.wrap; simp [IntKind.bits, IntKind.signed]; omega
end Go.Proofs.YtabffcplbjaklaaGreatDoor.Abs
namespace Go.Proofs.YtabffcplbjaklaaGreatDoor
open Go.ChangeShapes Go.WideShapes Go.ChangeAt Go.RowKit
structure Header where
  id : Int
  salt : ByteArray
  n : Int
  bytes : Int
  raw : Int
  root : ByteArray
  tag : ByteArray
def Header.cells (h : Header) : List Value := [.int .i64 h.id, .string h.salt, .int .i64 h.n, .int .i64 h.bytes, .int .i64 h.raw, .string h.root, .string h.tag]
def Header.wf (h : Header) : Prop := h.salt.size ≤ maxLen ∧ h.root.size ≤ maxLen ∧ h.tag.size ≤ maxLen ∧ (Lit.int .i64 h.id).wf = true ∧ (Lit.int .i64 h.n).wf = true ∧ (Lit.int .i64 h.bytes).wf = true ∧ (Lit.int .i64 h.raw).wf = true
theorem cellsInt : Tryz.prog.cellsOf 3 = 1 := by kernel_rfl
theorem cellsStr : Tryz.prog.cellsOf 9 = 1 := by kernel_rfl
theorem cellsHeader : Tryz.prog.cellsOf 40 = 7 := by kernel_rfl
end Go.Proofs.YtabffcplbjaklaaGreatDoor
namespace Go.Proofs.YtabffcplbjaklaaGreatDoor
open Go.RowKit Abs
def Keeps (k : Nat) (M M' : Mem) : Prop := (∀ b x, b < k → M.get b = some x → M'.get b = some x) ∧ ∀ b s cs, M.get b = some (.cells true s cs) → M'.get b = some (.cells true s cs)
theorem Keeps.refl (k : Nat) (M : Mem) : Keeps k M M := ⟨fun _ _ _ h => h, fun _ _ _ h => h⟩
theorem Keeps.trans {k : Nat} {A B C : Mem} (h : Keeps k A B) (g : Keeps k B C) : Keeps k A C := ⟨fun b x hb hx => g.1 b x hb (h.1 b x hb hx), fun b s cs hb => g.2 b s cs (h.2 b s cs hb)⟩
theorem get_live {M : Mem} {b : Nat} {x : Blk} (h : M.get b = some x) : b < M.size := Mem.get_lt h
theorem Keeps.push (k : Nat) (M : Mem) (x : Blk) : Keeps k M (M.push x) := ⟨fun b y _ h => by rw [Mem.get_push_old (get_live h)]; exact h, fun b s cs h => by rw [Mem.get_push_old (get_live h)]; exact h⟩
theorem Keeps.set {k : Nat} {M : Mem} {b : Nat} {s : Nat} {cs : List Value} (hk : k ≤ b) (hb : M.get b = some (.cells false s cs)) (o : Option Blk) : Keeps k M (M.set b o) :=
  ⟨fun c y hc h => by rw [Mem.get_set_ne (by omega)]; exact h, fun c s' cs' h => by rw [Mem.get_set_ne (fun e => by subst e; rw [hb] at h; cases h)]; exact h⟩
theorem Keeps.ext (k : Nat) (M : Mem) (l : List (Option (Option Blk))) : Keeps k M (ext M l) := ⟨fun b y _ h => ext_get_old l h, fun b s cs h => ext_get_old l h⟩
end Go.Proofs.YtabffcplbjaklaaGreatDoor
namespace Go.Proofs.YtabffcplbjaklaaGreatDoor
open Go.RowKit Abs
def Only (l : List Nat) (M M' : Mem) : Prop := ∀ b x, b ∉ l → M.get b = some x → M'.get b = some x
theorem Only.refl (l : List Nat) (M : Mem) : Only l M M := fun _ _ _ h => h
theorem Only.trans {l : List Nat} {A B C : Mem} (h : Only l A B) (k : Only l B C) : Only l A C := fun b x hb hx => k b x hb (h b x hb hx)
theorem Only.set {l : List Nat} {M : Mem} {b : Nat} (hb : b ∈ l) (o : Option Blk) : Only l M (M.set b o) := fun c x hc hx => by
  rw [Mem.get_set_ne (fun e => hc (by rw [← e]; exact hb))]; exact hx
theorem Only.push (l : List Nat) (M : Mem) (x : Blk) : Only l M (M.push x) := fun b y _ hy => by rw [Mem.get_push_old (get_live hy)]; exact hy
theorem Only.mono {l l' : List Nat} {A B : Mem} (h : Only l A B) (hl : ∀ b ∈ l, b ∈ l') : Only l' A B := fun b x hb hx => h b x (fun e => hb (hl b e)) hx
theorem Only.keep {l l' : List Nat} {A B : Mem} (h : Only l A B) (hl : ∀ b ∈ l, b ∈ l' ∨ A.get b = none) : Only l' A B := fun b x hb hx => h b x (fun e => by
  rcases hl b e with h1 | h1
  · exact hb h1
  · rw [h1] at hx; cases hx) hx
end Go.Proofs.YtabffcplbjaklaaGreatDoor
namespace Go.Proofs.YtabffcplbjaklaaGreatDoor
open Go.RowKit Abs Stab
def hid (h : Header) : Int := h.id
def Small (L : List Header) : Prop := ∀ h ∈ L, -1099511627776 ≤ h.id ∧ h.id ≤ 1099511627776
theorem hdr_len (h : Header) : h.cells.length = 7 := rfl
theorem hdr_one (h : Header) : oneAll h.cells = true := rfl
def HdrsIn (M : Mem) (g : Nat) (L : List Header) : Prop := M.get g = some (.cells false 7 (L.flatMap Header.cells))
theorem hdr_row {M : Mem} {g : Nat} {L : List Header} (h : HdrsIn M g L) {k : Nat} {x : Header} (hx : L[k]? = some x) : rowIn 7 (k * 7) (M.get g) = some (.agg x.cells.toArray) := by
  rw [show M.get g = _ from h]
  exact rowIn_at (n := 7) (fun a _ => hdr_len a) hx false 7
theorem hdr_put {M : Mem} {g : Nat} {L : List Header} (h : HdrsIn M g L) {k : Nat} {x : Header} (hx : L[k]? = some x) (y : Header) : ∃ M', putIn 7 M g (k * 7) y.cells (M.get g) = some M' ∧ HdrsIn M' g (L.set k y) ∧ Only [g] M M' ∧ M'.size = M.size := by
  refine ⟨_, ?_, Mem.get_set_same h _, Only.set (by simp) _, Mem.size_set _ _ _⟩
  rw [show M.get g = _ from h]
  exact putIn_at (fun a _ => hdr_len a) hx y (hdr_len y) (hdr_one y) M g 7
def cmpV : Value := .func (.func 42) #[] #[]
set_option maxRecDepth 100000 in
set_option maxHeartbeats 2000000 in
theorem cmp_spec (a b : Header) (ha : -1099511627776 ≤ a.id ∧ a.id ≤ 1099511627776) (hb : -1099511627776 ≤ b.id ∧ b.id ≤ 1099511627776) (m : Mem) :
    Abs.Spec Tryz.prog 42 [.agg a.cells.toArray, .agg b.cells.toArray] m fun u M => u = .int .i64 (a.id - b.id) ∧ M = m := by
  refine Abs.Spec.walkB Tryz.func42 (by rfl) _ Tryz.results42 _ Tryz.ntmps42 (by simp) m [] (ext_nil m).symm 0 rfl (.inl rfl) ?_
  intro hc _
  have w : IntKind.i64.wrap (a.id - b.id) = a.id - b.id := wri (by omega) (by omega)
  have b1 : nBox Tryz.prog 40 (.agg a.cells.toArray) = some (.cells false (aStride Tryz.prog 40) a.cells) := bx_Hdr _ rfl
  have b2 : nBox Tryz.prog 40 (.agg b.cells.toArray) = some (.cells false (aStride Tryz.prog 40) b.cells) := bx_Hdr _ rfl
  generalize aStride Tryz.prog 40 = s1 at b1 b2
  have c1 : ∀ h : Header, cellIn 0 (some (.cells false s1 h.cells)) = some (.int .i64 h.id) := fun h => rfl
  refine CW_seq (CW_region ?_)
  simp only [zZ, reduceIte, Nat.reduceLT, Int.reduceToNat, Int.reduceLE, Int.reduceEq, Int.reduceLT, Nat.reduceEqDiff, Nat.reduceAdd, zMn, b1, b2]
  refine CW_seq (CW_region ?_)
  simp only [zZ, reduceIte, Nat.reduceLT, Int.reduceToNat, Int.reduceLE, Int.reduceEq, Int.reduceLT, Nat.reduceEqDiff, Nat.reduceAdd, zMn, c1, w]
  refine CW_ret ?_
  simp only [zZ, reduceIte, Nat.reduceLT, Int.reduceToNat, Int.reduceLE, Int.reduceEq, Int.reduceLT, Nat.reduceEqDiff, Nat.reduceAdd, zMn, bEnd, sAnswer, sAnswer.sRes]
  exact told_flat rfl rfl
theorem swap_adj (P Q : List Header) (x y : Header) : ((P ++ y :: x :: Q).set (P.length + 1) y).set P.length x = P ++ x :: y :: Q := by
  rw [List.set_append_right _ _ (by omega), show P.length + 1 - P.length = 1 by omega, List.set_cons_succ, List.set_cons_zero, set_mid]
theorem at_mid (P Q : List Header) (x : Header) : (P ++ x :: Q)[P.length]? = some x := by simp
theorem at_mid1 (P Q : List Header) (x y : Header) : (P ++ y :: x :: Q)[P.length + 1]? = some x := by
  rw [List.getElem?_append_right (by omega)]
  simp
set_option maxRecDepth 100000 in
set_option maxHeartbeats 4000000 in
theorem ins_spec (g n c : Nat) (M : Mem) (A X B : List Header) (hg : HdrsIn M g (A ++ X ++ B)) (hn : (A ++ X ++ B).length = n) (hn2 : n ≤ 1000000) (hs : Small (A ++ X ++ B)) :
    Abs.Spec Tryz.prog 96 [.slice (some ⟨g, 0, none⟩) n c, .int .i64 (A.length : Nat), .int .i64 ((A.length + X.length : Nat) : Int), cmpV] M
      fun u M' => u = .tuple #[] ∧ (∃ R, Stable hid X R ∧ HdrsIn M' g (A ++ R ++ B)) ∧ Only [g] M M' ∧ M'.size = M.size := by
  unfold cmpV
  refine Abs.Spec.walkM Tryz.func96 (by rfl) _ Tryz.results96 _ Tryz.ntmps96 (by simp) ?_
  intro hc hx k
  have hlen : A.length + X.length + B.length = n := by rw [← hn]; simp only [List.length_append]
  have w0 : IntKind.i64.wrap (((A.length : Nat) : Int) + 1) = ((A.length + 1 : Nat) : Int) := by rw [wri (by omega) (by omega)]; omega
  refine CW_seq (CW_region ?_)
  simp only [zZ, reduceIte, Nat.reduceLT, Int.reduceToNat, Int.reduceLE, Int.reduceEq, Int.reduceLT, Nat.reduceEqDiff, Nat.reduceAdd, zMn, w0]
  refine CW_block (MW_loop (fun j f M' => ∃ (i : Nat) (R Q : List Header), j = n + 1 - i ∧ f = [(0, .slice (some ⟨g, 0, none⟩) n c), (1, .int .i64 (A.length : Nat)), (2, .int .i64 ((A.length + X.length : Nat) : Int)), (3, .func (.func 42) #[] #[]), (8, .int .i64 (i : Nat))] ∧
    i ≤ n + 1 ∧ ((i = A.length + R.length ∧ R ≠ []) ∨ (X = [] ∧ i = A.length + 1)) ∧ (∃ X1, X = X1 ++ Q ∧ Stable hid X1 R) ∧ HdrsIn M' g (A ++ R ++ Q ++ B) ∧ Only [g] M M' ∧ M'.size = M.size) (n + 1 - (A.length + 1)) ?_ ?_)
  · refine ⟨[0, 1, 2, 3, 8], ?_⟩
    simp only [zZ, reduceIte, Nat.reduceLT, Int.reduceToNat, Int.reduceLE, Int.reduceEq, Int.reduceLT, Nat.reduceEqDiff, Nat.reduceAdd, keepF]
    cases hX : X with
    | nil => exact ⟨M, Thin.refl _, A.length + 1, [], [], rfl, by simp, by omega, .inr ⟨rfl, rfl⟩, ⟨[], rfl, Stable.refl _ List.Pairwise.nil⟩, by rw [hX] at hg; simpa using hg, Only.refl _ _, rfl⟩
    | cons x Q => exact ⟨M, Thin.refl _, A.length + 1, [x], Q, rfl, by simp, by rw [hX] at hlen; simp only [List.length_cons] at hlen; omega, .inl ⟨rfl, by simp⟩, ⟨[x], rfl, Stable.refl _ (List.pairwise_singleton _ _)⟩, by rw [hX] at hg; simpa using hg, Only.refl _ _, rfl⟩
  · rintro j f M' ⟨i, R, Q, rfl, rfl, hi, hiR, ⟨X1, hX1, hst⟩, hg', ho, hsz⟩
    refine CW_seq (CW_seq (CW_region ?_))
    simp only [zZ, reduceIte, Nat.reduceLT, Int.reduceToNat, Int.reduceLE, Int.reduceEq, Int.reduceLT, Nat.reduceEqDiff, Nat.reduceAdd, zMn]
    refine CW_cond (decide ((i : Int) < ((A.length + X.length : Nat) : Int))) (by rfl) (fun h => CW_skip ?_) (fun h => CW_exit ?_)
    · have h := of_decide_eq_true h
      obtain ⟨hiA, hRne⟩ : i = A.length + R.length ∧ R ≠ [] := by
        rcases hiR with h1 | ⟨h1, h2⟩
        · exact h1
        · rw [h1, List.length_nil] at h; omega
      have hl1 := hst.len
      obtain ⟨x, Q', rfl⟩ : ∃ x Q', Q = x :: Q' := by
        cases Q with
        | nil => rw [hX1, List.append_nil] at h; omega
        | cons x Q' => exact ⟨x, Q', rfl⟩
      have hXl : X.length = X1.length + (Q'.length + 1) := by rw [hX1]; simp
      have hsm : ∀ y, y ∈ R ∨ y = x → -1099511627776 ≤ y.id ∧ y.id ≤ 1099511627776 := fun y hy => hs y (by
        rw [hX1]
        rcases hy with hy | rfl
        · rw [hst.mem] at hy; simp [hy]
        · simp)
      simp only [zZ, reduceIte, Nat.reduceLT, Int.reduceToNat, Int.reduceLE, Int.reduceEq, Int.reduceLT, Nat.reduceEqDiff, Nat.reduceAdd]
      refine MW_mid (fun f M2 => ∃ R2, f = [(0, .slice (some ⟨g, 0, none⟩) n c), (1, .int .i64 (A.length : Nat)), (2, .int .i64 ((A.length + X.length : Nat) : Int)), (3, .func (.func 42) #[] #[]), (8, .int .i64 (i : Nat))] ∧ Stable hid (X1 ++ [x]) R2 ∧ HdrsIn M2 g (A ++ R2 ++ Q' ++ B) ∧ Only [g] M M2 ∧ M2.size = M.size) ?_ ?_
      · refine CW_block (CW_seq (CW_region ?_))
        simp only [zZ, reduceIte, Nat.reduceLT, Int.reduceToNat, Int.reduceLE, Int.reduceEq, Int.reduceLT, Nat.reduceEqDiff, Nat.reduceAdd, zMn]
        refine CW_block (MW_loop (fun jj f M2 => ∃ (j : Nat) (R1 R2 : List Header), jj = j ∧ f = [(0, .slice (some ⟨g, 0, none⟩) n c), (1, .int .i64 (A.length : Nat)), (2, .int .i64 ((A.length + X.length : Nat) : Int)), (3, .func (.func 42) #[] #[]), (8, .int .i64 (i : Nat)), (9, .int .i64 (j : Nat))] ∧
          R = R1 ++ R2 ∧ j = A.length + R1.length ∧ (∀ y ∈ R2, x.id < y.id) ∧ HdrsIn M2 g (A ++ R1 ++ x :: R2 ++ Q' ++ B) ∧ Only [g] M M2 ∧ M2.size = M.size) i ?_ ?_)
        · refine ⟨[0, 1, 2, 3, 8, 9], ?_⟩
          simp only [zZ, reduceIte, Nat.reduceLT, Int.reduceToNat, Int.reduceLE, Int.reduceEq, Int.reduceLT, Nat.reduceEqDiff, Nat.reduceAdd, keepF]
          exact ⟨M', Thin.refl _, i, R, [], rfl, rfl, by simp, hiA, by simp, by simpa using hg', ho, hsz⟩
        · rintro j f M2 ⟨_, R1, R2, rfl, rfl, hRR, hj, hgt, hg2, ho2, hsz2⟩
          have done : (∀ y ∈ R1, y.id ≤ x.id) → ∀ (f : AL), AL.get f 0 = some (.slice (some ⟨g, 0, none⟩) n c) → AL.get f 1 = some (.int .i64 (A.length : Nat)) → AL.get f 2 = some (.int .i64 ((A.length + X.length : Nat) : Int)) → AL.get f 3 = some (.func (.func 42) #[] #[]) → AL.get f 8 = some (.int .i64 (i : Nat)) →
              @JoinM f M2 ⟨fun f M2 => ∃ R2, f = [(0, .slice (some ⟨g, 0, none⟩) n c), (1, .int .i64 (A.length : Nat)), (2, .int .i64 ((A.length + X.length : Nat) : Int)), (3, .func (.func 42) #[] #[]), (8, .int .i64 (i : Nat))] ∧ Stable hid (X1 ++ [x]) R2 ∧ HdrsIn M2 g (A ++ R2 ++ Q' ++ B) ∧ Only [g] M M2 ∧ M2.size = M.size⟩ := fun hle f h0 h1 h2 h3 h8 => by
            refine ⟨[0, 1, 2, 3, 8], ?_⟩
            simp only [keepF, h0, h1, h2, h3, h8, zZ, reduceIte, Nat.reduceLT, Int.reduceToNat, Int.reduceLE, Int.reduceEq, Int.reduceLT, Nat.reduceEqDiff, Nat.reduceAdd]
            have hst2 : Stable hid (R ++ [x]) (R1 ++ x :: R2) := by
              rw [hRR]
              exact insert_right hid (by rw [← hRR]; exact hst.rising) (fun y hy => hle y hy) (fun y hy => hgt y hy)
            have hst3 : Stable hid (X1 ++ [x]) (R1 ++ x :: R2) := hst2.of_keys hid (fun k => by rw [ofKey_app, ofKey_app, hst.keys]) (by simp [hst.len])
            exact ⟨M2, Thin.refl _, R1 ++ x :: R2, hst3, by simpa using hg2, ho2, hsz2⟩
          refine CW_seq (CW_seq (CW_draw hmix 14 (by kernel_rfl) (by kernel_rfl) ?_))
          rcases List.eq_nil_or_concat R1 with rfl | ⟨R1', y, rfl⟩
          · have q1 : decide ((A.length : Int) < (j : Int)) = false := decide_eq_false (by rw [hj]; simp)
            simp only [zZ, reduceIte, Nat.reduceLT, Int.reduceToNat, Int.reduceLE, Int.reduceEq, Int.reduceLT, Nat.reduceEqDiff, Nat.reduceAdd, zMn, q1]
            refine CW_cond false (by rfl) (fun h => by cases h) (fun _ => CW_exit ?_)
            simp only [zZ, reduceIte, Nat.reduceLT, Int.reduceToNat, Int.reduceLE, Int.reduceEq, Int.reduceLT, Nat.reduceEqDiff, Nat.reduceAdd]
            exact done (by simp) _ rfl rfl rfl rfl rfl
          · obtain ⟨P, hP⟩ : ∃ P, P = A ++ R1' := ⟨_, rfl⟩
            obtain ⟨T, hT⟩ : ∃ T, T = R2 ++ Q' ++ B := ⟨_, rfl⟩
            have hL : A ++ R1'.concat y ++ x :: R2 ++ Q' ++ B = P ++ y :: x :: T := by rw [hP, hT]; simp
            rw [hL] at hg2
            have hjP : j = P.length + 1 := by rw [hj, hP]; simp; omega
            have hn3 : P.length + 1 < n := by
              have e := congrArg List.length hRR
              simp only [List.length_append, List.length_concat] at e
              rw [hP, List.length_append]
              omega
            have q1 : decide ((A.length : Int) < (j : Int)) = true := decide_eq_true (by rw [hjP, hP, List.length_append]; omega)
            have r1 := hdr_row hg2 (at_mid1 P T x y)
            have r0 := hdr_row hg2 (at_mid P (x :: T) y)
            have w1 : IntKind.i64.wrap ((j : Int) - 1) = ((P.length : Nat) : Int) := by rw [wri (by omega) (by omega)]; omega
            have z1 : (0 : Int) ≤ (j : Int) := by omega
            have z2 : (j : Int) < (n : Int) := by omega
            have z3 : (0 : Int) ≤ ((P.length : Nat) : Int) := by omega
            have z4 : ((P.length : Nat) : Int) < (n : Int) := by omega
            rw [← hjP] at r1
            simp only [zZ, reduceIte, Nat.reduceLT, Int.reduceToNat, Int.reduceLE, Int.reduceEq, Int.reduceLT, Nat.reduceEqDiff, Nat.reduceAdd, zMn, q1, w1, z1, z2, z3, z4, and_self, r0, r1]
            have sx := hsm x (.inr rfl)
            have sy := hsm y (.inl (by rw [hRR]; simp))
            refine ⟨by kernel_rfl, _, cmp_spec x y sx sy M2, ?_⟩
            rintro _ M9 ⟨rfl, e9⟩; replace e9 := e9.symm; subst e9
            refine ⟨by decide, ?_⟩
            simp only [zZ, reduceIte, Nat.reduceLT, Int.reduceToNat, Int.reduceLE, Int.reduceEq, Int.reduceLT, Nat.reduceEqDiff, Nat.reduceAdd, zMn]
            refine CW_cond (decide (x.id - y.id < 0)) (by rfl) (fun h => CW_skip ?_) (fun h => CW_exit ?_)
            · have h := of_decide_eq_true h
              obtain ⟨M3, hp3, hg3, ho3, hs3⟩ := hdr_put hg2 (show (P ++ y :: x :: T)[j]? = some x by rw [hjP]; exact at_mid1 P T x y) y
              have hx3 : ((P ++ y :: x :: T).set j y)[P.length]? = some y := by
                rw [List.getElem?_set_ne (by omega)]; exact at_mid P (x :: T) y
              obtain ⟨M4, hp4, hg4, ho4, hs4⟩ := hdr_put hg3 hx3 x
              rw [hjP, swap_adj] at hg4
              simp only [zZ, reduceIte, Nat.reduceLT, Int.reduceToNat, Int.reduceLE, Int.reduceEq, Int.reduceLT, Nat.reduceEqDiff, Nat.reduceAdd]
              refine CW_seq (CW_block (CW_draw4 hmix 15 [2, 3, 4] (by kernel_rfl) ?_))
              simp only [sQB, idleOK, Option.bind_some, zZ, reduceIte, Nat.reduceLT, Int.reduceToNat, Int.reduceLE, Int.reduceEq, Int.reduceLT, Nat.reduceEqDiff, Nat.reduceAdd, zMn, w1, z1, z2, z3, z4, and_self, r0, r1, hp3, hp4]
              refine ⟨⟨⟨_, rfl⟩, ⟨_, rfl⟩, ⟨_, rfl⟩⟩, ?_⟩
              refine CW_region ?_
              simp only [zZ, reduceIte, Nat.reduceLT, Int.reduceToNat, Int.reduceLE, Int.reduceEq, Int.reduceLT, Nat.reduceEqDiff, Nat.reduceAdd, zMn, w1]
              refine ⟨[0, 1, 2, 3, 8, 9], ?_⟩
              simp only [zZ, reduceIte, Nat.reduceLT, Int.reduceToNat, Int.reduceLE, Int.reduceEq, Int.reduceLT, Nat.reduceEqDiff, Nat.reduceAdd, keepF]
              refine ⟨M4, Thin.refl _, P.length, ⟨P.length, R1', y :: R2, rfl, rfl, by rw [hRR]; simp, by rw [hP, List.length_append], ?_, ?_, ho2.trans (ho3.trans ho4), by omega⟩, by omega⟩
              · intro z hz
                rcases List.mem_cons.1 hz with rfl | hz
                · omega
                · exact hgt z hz
              · have e : A ++ R1' ++ x :: (y :: R2) ++ Q' ++ B = P ++ x :: y :: T := by rw [hP, hT]; simp
                rw [e]; exact hg4
            · have h := of_decide_eq_false h
              simp only [zZ, reduceIte, Nat.reduceLT, Int.reduceToNat, Int.reduceLE, Int.reduceEq, Int.reduceLT, Nat.reduceEqDiff, Nat.reduceAdd]
              refine done (fun z hz => ?_) _ rfl rfl rfl rfl rfl
              have hr := hst.rising
              rw [hRR] at hr
              have hr := (Rising.parts hid hr).1
              rw [List.concat_eq_append] at hr hz
              rcases List.mem_append.1 hz with hz | hz
              · have := (Rising.parts hid hr).2.2 z hz y (by simp)
                unfold hid at this
                omega
              · simp only [List.mem_singleton] at hz
                rw [hz]; omega
      · rintro _ M2 ⟨R2, rfl, hst2, hg2, ho2, hsz2⟩
        have hl2 := hst2.len
        have w1 : IntKind.i64.wrap ((i : Int) + 1) = ((i + 1 : Nat) : Int) := by rw [wri (by omega) (by omega)]; omega
        refine CW_region ?_
        simp only [zZ, reduceIte, Nat.reduceLT, Int.reduceToNat, Int.reduceLE, Int.reduceEq, Int.reduceLT, Nat.reduceEqDiff, Nat.reduceAdd, zMn, w1]
        refine ⟨[0, 1, 2, 3, 8], ?_⟩
        simp only [zZ, reduceIte, Nat.reduceLT, Int.reduceToNat, Int.reduceLE, Int.reduceEq, Int.reduceLT, Nat.reduceEqDiff, Nat.reduceAdd, keepF]
        refine ⟨M2, Thin.refl _, n + 1 - (i + 1), ⟨i + 1, R2, Q', rfl, rfl, by omega, .inl ⟨?_, ?_⟩, ⟨X1 ++ [x], by rw [hX1]; simp, hst2⟩, hg2, ho2, hsz2⟩, by omega⟩
        · rw [hl2, hiA]; simp; omega
        · intro e; rw [e] at hl2; simp at hl2
    · have h := of_decide_eq_false h
      have hl1 := hst.len
      have hQ : Q = [] := by
        rcases hiR with ⟨h1, h2⟩ | ⟨h1, h2⟩
        · have : Q.length = 0 := by rw [hX1, List.length_append] at h; omega
          exact List.eq_nil_of_length_eq_zero this
        · rw [h1] at hX1; exact (List.append_eq_nil_iff.1 hX1.symm).2
      simp only [zZ, reduceIte, Nat.reduceLT, Int.reduceToNat, Int.reduceLE, Int.reduceEq, Int.reduceLT, Nat.reduceEqDiff, Nat.reduceAdd, zMn, mEnd, sAnswer, sAnswer.sRes]
      rw [hQ, List.append_nil] at hg' hX1
      exact ⟨M', Thin.refl _, ⟨R, by rw [hX1]; exact hst, hg'⟩, ho, hsz⟩
end Go.Proofs.YtabffcplbjaklaaGreatDoor
namespace Go.Proofs.YtabffcplbjaklaaGreatDoor
open Go.RowKit Abs
section
variable {P : Program} {t tx e : TypeId} {i : TypeInfo} {z : Value} {N : Nat}
theorem gapp (hu : P.underlying t = some (.slice e)) (hi : P.info? e = some i) (hz : i.zero = some z) (hs : i.size = N) (hzc : z.cells.toList.length = N) (m : Mem) {x : Value} {k n g : Nat} {cs news : List Value}
    (hsrc : aSrc P m tx N x = some (k, news)) (hk : k ≠ 0) (hg : m.get g = some (.cells false N cs)) (hn : cs.length = n * N) (hb : (n + k) * i.bytes ≤ 140737488355328) (hb2 : n + k ≤ 140737488355328) :
    aAppend P m t tx (.slice (some ⟨g, 0, none⟩) n n) x = some (.slice (some ⟨m.size, 0, none⟩) (n + k) (n + k), (m.set g none).push (.cells false N (cs ++ news))) := by
  unfold aAppend
  simp only [hu, hi, hz, hs, hzc, if_true, hsrc, if_neg hk, hg]
  rw [if_neg (by omega), if_pos ⟨by omega, trivial, hb, hb2⟩, List.drop_zero, ← hn, List.take_length]
theorem gapp_nil (hu : P.underlying t = some (.slice e)) (hi : P.info? e = some i) (hz : i.zero = some z) (hs : i.size = N) (hzc : z.cells.toList.length = N) (m : Mem) {x : Value} {k : Nat} {news : List Value}
    (hsrc : aSrc P m tx N x = some (k, news)) (hk : k ≠ 0) (hb : k * i.bytes ≤ 140737488355328) (hb2 : k ≤ 140737488355328) :
    aAppend P m t tx (.slice none 0 0) x = some (.slice (some ⟨m.size, 0, none⟩) k k, m.push (.cells false N news)) := by
  unfold aAppend
  simp only [hu, hi, hz, hs, hzc, if_true, hsrc, if_neg hk]
  rw [if_pos ⟨hb, hb2⟩]
end
end Go.Proofs.YtabffcplbjaklaaGreatDoor
namespace Go.Proofs.YtabffcplbjaklaaGreatDoor
open Go.RowKit Abs
theorem Hdr_zero : Tryz.t40.zero = some (.agg #[.int .i64 0, .string ⟨#[]⟩, .int .i64 0, .int .i64 0, .int .i64 0, .string ⟨#[]⟩, .string ⟨#[]⟩]) := rfl
theorem Hdr_bytes : Tryz.t40.bytes ≤ 1000 := by decide
theorem new_hdr1 (h : Header) : nBuildSlice Tryz.prog 22 1 [(0, .agg h.cells.toArray)] = some (.cells false 7 h.cells) := by kernel_rfl
def blkAt : Value → Option Nat
  | .slice (some a) _ _ => some a.block
  | _ => none
def HdrsOwn (k : Nat) (M : Mem) (V : Value) (L : List Header) : Prop := (L = [] ∧ V = .slice none 0 0) ∨ (L ≠ [] ∧ ∃ g, k ≤ g ∧ V = .slice (some ⟨g, 0, none⟩) L.length L.length ∧ HdrsIn M g L)
theorem HdrsOwn.len {k : Nat} {M : Mem} {V : Value} {L : List Header} (h : HdrsOwn k M V L) : ∃ a c, V = .slice a L.length c := by
  rcases h with ⟨rfl, rfl⟩ | ⟨_, g, _, rfl, _⟩
  · exact ⟨none, 0, rfl⟩
  · exact ⟨_, _, rfl⟩
theorem HdrsOwn.same {k : Nat} {M M' : Mem} {V : Value} {L : List Header} (h : HdrsOwn k M V L) (hs : ∀ b x, blkAt V = some b → M.get b = some x → M'.get b = some x) : HdrsOwn k M' V L := by
  rcases h with h | ⟨h0, g, hk, rfl, hg⟩
  · exact .inl h
  · exact .inr ⟨h0, g, hk, rfl, hs g _ rfl hg⟩
theorem HdrsOwn.live {k : Nat} {M : Mem} {V : Value} {L : List Header} (h : HdrsOwn k M V L) {b : Nat} (hb : blkAt V = some b) : k ≤ b ∧ b < M.size := by
  rcases h with ⟨_, rfl⟩ | ⟨h0, g, hk, rfl, hg⟩
  · cases hb
  · cases hb; exact ⟨hk, get_live hg⟩
theorem happ {k : Nat} {M : Mem} {V : Value} {L : List Header} (h : HdrsOwn k M V L) (hk : k ≤ M.size) (hl : L.length ≤ 1000000) (x : Header) :
    ∃ M' V', aAppend Tryz.prog (M.push (.cells false 7 x.cells)) 22 22 V (.slice (some ⟨M.size, 0, none⟩) 1 1) = some (V', M') ∧ blkAt V' = some (M.size + 1) ∧ HdrsOwn k M' V' (L ++ [x]) ∧
      M'.size = M.size + 2 ∧ (∀ b y, blkAt V ≠ some b → M.get b = some y → M'.get b = some y) := by
  have hu := Tryz.underlying22
  have hby := Hdr_bytes
  have hsrc := src_block (P := Tryz.prog) (m := M.push (.cells false 7 x.cells)) (c := 1) (k := 1) (N := 7) (news := x.cells) (ro := false) (s := 7) hu (Mem.get_push_new M _) rfl
  rcases h with ⟨rfl, rfl⟩ | ⟨h0, g, hgk, rfl, hg⟩
  · have ha := gapp_nil (P := Tryz.prog) (N := 7) (k := 1) (news := x.cells) hu inf_Hdr Hdr_zero sz_Hdr rfl (M.push (.cells false 7 x.cells)) hsrc (by decide) (by omega) (by decide)
    rw [Mem.size_push] at ha
    refine ⟨_, _, ha, rfl, .inr ⟨by simp, M.size + 1, by omega, rfl, ?_⟩, by simp only [Mem.size_push], fun b y _ hy => ?_⟩
    · have := Mem.get_push_new (M.push (.cells false 7 x.cells)) (.cells false 7 x.cells)
      rw [Mem.size_push] at this
      unfold HdrsIn
      rw [this]
      simp
    · have := get_live hy
      rw [Mem.get_push_old (by rw [Mem.size_push]; omega), Mem.get_push_old this]; exact hy
  · have hgl := get_live hg
    have ha := gapp (P := Tryz.prog) (N := 7) (k := 1) (n := L.length) (cs := L.flatMap Header.cells) (news := x.cells) hu inf_Hdr Hdr_zero sz_Hdr rfl (M.push (.cells false 7 x.cells)) hsrc (by decide)
      (by rw [Mem.get_push_old hgl]; exact hg) (flatMap_len Header.cells 7 L fun x _ => hdr_len x) (by have := Nat.mul_le_mul (show L.length + 1 ≤ 1000001 by omega) hby; omega) (by omega)
    rw [Mem.size_push] at ha
    refine ⟨_, _, ha, rfl, .inr ⟨by simp, M.size + 1, by omega, by simp, ?_⟩, by simp only [Mem.size_push, Mem.size_set], fun b y hb hy => ?_⟩
    · have := Mem.get_push_new ((M.push (.cells false 7 x.cells)).set g none) (.cells false 7 (L.flatMap Header.cells ++ x.cells))
      rw [Mem.size_set, Mem.size_push] at this
      unfold HdrsIn
      rw [this, List.flatMap_append]; simp
    · have := get_live hy
      rw [Mem.get_push_old (by rw [Mem.size_set, Mem.size_push]; omega), Mem.get_set_ne (by intro e; apply hb; rw [e]; rfl), Mem.get_push_old this]; exact hy
end Go.Proofs.YtabffcplbjaklaaGreatDoor
namespace Go.Proofs.YtabffcplbjaklaaGreatDoor
open Go.RowKit Abs Stab
set_option maxRecDepth 100000 in
set_option maxHeartbeats 4000000 in
theorem swapR_spec (g n c : Nat) (M : Mem) (A X C Y B : List Header) (a b k : Nat) (hg : HdrsIn M g (A ++ X ++ C ++ Y ++ B)) (hn : (A ++ X ++ C ++ Y ++ B).length = n) (hn2 : n ≤ 1000000) (ha : A.length = a) (hb : a + X.length + C.length = b) (hk : X.length = k) (hk2 : Y.length = k) (F : Value) :
    Abs.Spec Tryz.prog 140 [.slice (some ⟨g, 0, none⟩) n c, .int .i64 (a : Nat), .int .i64 (b : Nat), .int .i64 (k : Nat), F] M
      fun u M' => u = .tuple #[] ∧ HdrsIn M' g (A ++ Y ++ C ++ X ++ B) ∧ Only [g] M M' ∧ M'.size = M.size := by
  refine Abs.Spec.walkM Tryz.func140 (by rfl) _ Tryz.results140 _ Tryz.ntmps140 (by simp) ?_
  intro hc hx K
  have hlen : a + k + C.length + k + B.length = n := by rw [← hn]; simp only [List.length_append]; omega
  refine CW_seq (CW_region ?_)
  simp only [zZ, reduceIte, Nat.reduceLT, Int.reduceToNat, Int.reduceLE, Int.reduceEq, Int.reduceLT, Nat.reduceEqDiff, Nat.reduceAdd, zMn]
  refine CW_block (MW_loop (fun j f M' => ∃ (i : Nat) (X1 X2 Y1 Y2 : List Header), j = k - i ∧ f = [(0, .slice (some ⟨g, 0, none⟩) n c), (1, .int .i64 (a : Nat)), (2, .int .i64 (b : Nat)), (3, .int .i64 (k : Nat)), (10, .int .i64 (i : Nat))] ∧
    X = X1 ++ X2 ∧ Y = Y1 ++ Y2 ∧ X1.length = i ∧ Y1.length = i ∧ HdrsIn M' g (A ++ Y1 ++ X2 ++ C ++ X1 ++ Y2 ++ B) ∧ Only [g] M M' ∧ M'.size = M.size) k ?_ ?_)
  · refine ⟨[0, 1, 2, 3, 10], ?_⟩
    simp only [zZ, reduceIte, Nat.reduceLT, Int.reduceToNat, Int.reduceLE, Int.reduceEq, Int.reduceLT, Nat.reduceEqDiff, Nat.reduceAdd, keepF]
    exact ⟨M, Thin.refl _, 0, [], X, [], Y, rfl, rfl, rfl, rfl, rfl, rfl, by simpa using hg, Only.refl _ _, rfl⟩
  · rintro j f M' ⟨i, X1, X2, Y1, Y2, rfl, rfl, hX, hY, h1, h2, hg', ho, hsz⟩
    have e1 := congrArg List.length hX
    have e2 := congrArg List.length hY
    rw [List.length_append] at e1 e2
    refine CW_seq (CW_seq (CW_region ?_))
    simp only [zZ, reduceIte, Nat.reduceLT, Int.reduceToNat, Int.reduceLE, Int.reduceEq, Int.reduceLT, Nat.reduceEqDiff, Nat.reduceAdd, zMn]
    refine CW_cond (decide ((i : Int) < (k : Int))) (by rfl) (fun h => CW_skip ?_) (fun h => CW_exit ?_)
    · have h := of_decide_eq_true h
      obtain ⟨x, X3, rfl⟩ : ∃ x X3, X2 = x :: X3 := by
        cases X2 with
        | nil => rw [List.length_nil] at e1; omega
        | cons x X3 => exact ⟨x, X3, rfl⟩
      obtain ⟨y, Y3, rfl⟩ : ∃ y Y3, Y2 = y :: Y3 := by
        cases Y2 with
        | nil => rw [List.length_nil] at e2; omega
        | cons y Y3 => exact ⟨y, Y3, rfl⟩
      rw [List.length_cons] at e1 e2
      obtain ⟨P, hP⟩ : ∃ P, P = A ++ Y1 := ⟨_, rfl⟩
      obtain ⟨T, hT⟩ : ∃ T, T = X3 ++ C ++ X1 := ⟨_, rfl⟩
      have hPl : P.length = a + i := by rw [hP, List.length_append]; omega
      have hTl : a + i + 1 + T.length = b + i := by rw [hT]; simp only [List.length_append]; omega
      have hL : A ++ Y1 ++ x :: X3 ++ C ++ X1 ++ y :: Y3 ++ B = P ++ x :: (T ++ y :: (Y3 ++ B)) := by rw [hP, hT]; simp
      rw [hL] at hg'
      have at1 : (P ++ x :: (T ++ y :: (Y3 ++ B)))[a + i]? = some x := by rw [← hPl]; exact at_mid P _ x
      have at2 : ∀ z, (P ++ z :: (T ++ y :: (Y3 ++ B)))[b + i]? = some y := fun z => by
        have := at_mid (P ++ z :: T) (Y3 ++ B) y
        rw [show (P ++ z :: T).length = b + i by rw [List.length_append, List.length_cons]; omega] at this
        simpa using this
      have r1 := hdr_row hg' at1
      have r2 := hdr_row hg' (at2 x)
      obtain ⟨M3, hp3, hg3, ho3, hs3⟩ := hdr_put hg' at1 y
      rw [← hPl, set_mid] at hg3
      obtain ⟨M4, hp4, hg4, ho4, hs4⟩ := hdr_put hg3 (at2 y) x
      have hset : (P ++ y :: (T ++ y :: (Y3 ++ B))).set (b + i) x = P ++ y :: (T ++ x :: (Y3 ++ B)) := by
        have := set_mid (P ++ y :: T) (Y3 ++ B) y x
        rw [show (P ++ y :: T).length = b + i by rw [List.length_append, List.length_cons]; omega] at this
        simpa using this
      rw [hset] at hg4
      have w1 : IntKind.i64.wrap ((a : Int) + (i : Int)) = ((a + i : Nat) : Int) := by rw [wri (by omega) (by omega)]; omega
      have w2 : IntKind.i64.wrap ((b : Int) + (i : Int)) = ((b + i : Nat) : Int) := by rw [wri (by omega) (by omega)]; omega
      have w3 : IntKind.i64.wrap ((i : Int) + 1) = ((i + 1 : Nat) : Int) := by rw [wri (by omega) (by omega)]; omega
      have z1 : (0 : Int) ≤ ((a + i : Nat) : Int) := by omega
      have z2 : ((a + i : Nat) : Int) < (n : Int) := by omega
      have z3 : (0 : Int) ≤ ((b + i : Nat) : Int) := by omega
      have z4 : ((b + i : Nat) : Int) < (n : Int) := by omega
      simp only [zZ, reduceIte, Nat.reduceLT, Int.reduceToNat, Int.reduceLE, Int.reduceEq, Int.reduceLT, Nat.reduceEqDiff, Nat.reduceAdd]
      refine CW_seq (CW_block (CW_draw4 hmix 21 [4, 5, 6, 7] (by kernel_rfl) ?_))
      simp only [sQB, idleOK, Option.bind_some, zZ, reduceIte, Nat.reduceLT, Int.reduceToNat, Int.reduceLE, Int.reduceEq, Int.reduceLT, Nat.reduceEqDiff, Nat.reduceAdd, zMn, w1, w2, z1, z2, z3, z4, and_self, r1, r2, hp3, hp4]
      refine ⟨⟨⟨_, rfl⟩, ⟨_, rfl⟩, ⟨_, rfl⟩, ⟨_, rfl⟩⟩, ?_⟩
      refine CW_region ?_
      simp only [zZ, reduceIte, Nat.reduceLT, Int.reduceToNat, Int.reduceLE, Int.reduceEq, Int.reduceLT, Nat.reduceEqDiff, Nat.reduceAdd, zMn, w3]
      refine ⟨[0, 1, 2, 3, 10], ?_⟩
      simp only [zZ, reduceIte, Nat.reduceLT, Int.reduceToNat, Int.reduceLE, Int.reduceEq, Int.reduceLT, Nat.reduceEqDiff, Nat.reduceAdd, keepF]
      refine ⟨M4, Thin.refl _, k - (i + 1), ⟨i + 1, X1 ++ [x], X3, Y1 ++ [y], Y3, rfl, rfl, by rw [hX]; simp, by rw [hY]; simp, by simp [h1], by simp [h2], ?_, ho.trans (ho3.trans ho4), by omega⟩, by omega⟩
      have e : A ++ (Y1 ++ [y]) ++ X3 ++ C ++ (X1 ++ [x]) ++ Y3 ++ B = P ++ y :: (T ++ x :: (Y3 ++ B)) := by rw [hP, hT]; simp
      rw [e]; exact hg4
    · have h := of_decide_eq_false h
      have n1 : X2 = [] := List.eq_nil_of_length_eq_zero (by omega)
      have n2 : Y2 = [] := List.eq_nil_of_length_eq_zero (by omega)
      rw [n1, List.append_nil] at hX hg'
      rw [n2, List.append_nil] at hY
      rw [n2, List.append_nil] at hg'
      simp only [zZ, reduceIte, Nat.reduceLT, Int.reduceToNat, Int.reduceLE, Int.reduceEq, Int.reduceLT, Nat.reduceEqDiff, Nat.reduceAdd, zMn, mEnd, sAnswer, sAnswer.sRes]
      exact ⟨M', Thin.refl _, by rw [hX, hY]; exact hg', ho, hsz⟩
set_option maxRecDepth 100000 in
set_option maxHeartbeats 4000000 in
theorem rotate_spec (g n c : Nat) (M : Mem) (A U V B : List Header) (a m b : Nat) (hg : HdrsIn M g (A ++ U ++ V ++ B)) (hn : (A ++ U ++ V ++ B).length = n) (hn2 : n ≤ 1000000) (ha : A.length = a) (hm : a + U.length = m) (hb : m + V.length = b) (hU : 0 < U.length) (hV : 0 < V.length) :
    Abs.Spec Tryz.prog 124 [.slice (some ⟨g, 0, none⟩) n c, .int .i64 (a : Nat), .int .i64 (m : Nat), .int .i64 (b : Nat), cmpV] M
      fun u M' => u = .tuple #[] ∧ HdrsIn M' g (A ++ V ++ U ++ B) ∧ Only [g] M M' ∧ M'.size = M.size := by
  unfold cmpV
  refine Abs.Spec.walkM Tryz.func124 (by rfl) _ Tryz.results124 _ Tryz.ntmps124 (by simp) ?_
  intro hc hx K
  have hlen : a + U.length + V.length + B.length = n := by rw [← hn]; simp only [List.length_append]; omega
  have w1 : IntKind.i64.wrap ((m : Int) - (a : Int)) = ((U.length : Nat) : Int) := by rw [wri (by omega) (by omega)]; omega
  have w2 : IntKind.i64.wrap ((b : Int) - (m : Int)) = ((V.length : Nat) : Int) := by rw [wri (by omega) (by omega)]; omega
  refine CW_seq (CW_region ?_)
  simp only [zZ, reduceIte, Nat.reduceLT, Int.reduceToNat, Int.reduceLE, Int.reduceEq, Int.reduceLT, Nat.reduceEqDiff, Nat.reduceAdd, zMn, w1]
  refine CW_seq (CW_region ?_)
  simp only [zZ, reduceIte, Nat.reduceLT, Int.reduceToNat, Int.reduceLE, Int.reduceEq, Int.reduceLT, Nat.reduceEqDiff, Nat.reduceAdd, zMn, w2]
  refine CW_seq (CW_block (MW_loop (fun jj f M' => ∃ (i j : Nat) (A' U' V' B' : List Header), jj = i + j ∧ f = [(0, .slice (some ⟨g, 0, none⟩) n c), (2, .int .i64 (m : Nat)), (4, .func (.func 42) #[] #[]), (10, .int .i64 (i : Nat)), (11, .int .i64 (j : Nat))] ∧
    U'.length = i ∧ V'.length = j ∧ 0 < i ∧ 0 < j ∧ A'.length + i = m ∧ A' ++ V' ++ U' ++ B' = A ++ V ++ U ++ B ∧ HdrsIn M' g (A' ++ U' ++ V' ++ B') ∧ Only [g] M M' ∧ M'.size = M.size) (U.length + V.length) ?_ ?_))
  · refine ⟨[0, 2, 4, 10, 11], ?_⟩
    simp only [zZ, reduceIte, Nat.reduceLT, Int.reduceToNat, Int.reduceLE, Int.reduceEq, Int.reduceLT, Nat.reduceEqDiff, Nat.reduceAdd, keepF]
    exact ⟨M, Thin.refl _, U.length, V.length, A, U, V, B, rfl, rfl, rfl, rfl, hU, hV, by omega, rfl, hg, Only.refl _ _, rfl⟩
  · rintro jj f M' ⟨i, j, A', U', V', B', rfl, rfl, hi, hj, hi0, hj0, hm', hT, hg', ho, hsz⟩
    have hlen' : A'.length + i + j + B'.length = n := by
      have e := congrArg List.length hT
      simp only [List.length_append] at e
      omega
    have hL' : (A' ++ U' ++ V' ++ B').length = n := by simp only [List.length_append]; omega
    refine CW_seq (CW_seq (CW_region ?_))
    simp only [zZ, reduceIte, Nat.reduceLT, Int.reduceToNat, Int.reduceLE, Int.reduceEq, Int.reduceLT, Nat.reduceEqDiff, Nat.reduceAdd, zMn]
    by_cases hij : i = j
    · have q : ((i : Int) != (j : Int)) = false := by rw [hij]; simp
      simp only [q]
      refine CW_cond false (by rfl) (fun h => by cases h) (fun _ => CW_exit ?_)
      simp only [zZ, reduceIte, Nat.reduceLT, Int.reduceToNat, Int.reduceLE, Int.reduceEq, Int.reduceLT, Nat.reduceEqDiff, Nat.reduceAdd]
      have wm : IntKind.i64.wrap ((m : Int) - (i : Int)) = ((A'.length : Nat) : Int) := by rw [wri (by omega) (by omega)]; omega
      refine CW_region ?_
      simp only [zZ, reduceIte, Nat.reduceLT, Int.reduceToNat, Int.reduceLE, Int.reduceEq, Int.reduceLT, Nat.reduceEqDiff, Nat.reduceAdd, zMn, wm]
      refine ⟨by kernel_rfl, _, swapR_spec g n c M' A' U' [] V' B' A'.length m i (by simpa using hg') (by simpa using hL') hn2 rfl (by simp; omega) hi (by omega) _, ?_⟩
      rintro _ M2 ⟨rfl, hg2, ho2, hs2⟩
      simp only [zZ, reduceIte, Nat.reduceLT, Int.reduceToNat, Int.reduceLE, Int.reduceEq, Int.reduceLT, Nat.reduceEqDiff, Nat.reduceAdd, zMn, mEnd, sAnswer, sAnswer.sRes]
      refine ⟨M2, Thin.refl _, ?_, ho.trans ho2, by omega⟩
      rw [← hT]
      simpa using hg2
    · have q : ((i : Int) != (j : Int)) = true := by rw [bne_iff_ne]; omega
      simp only [q]
      refine CW_cond true (by rfl) (fun _ => CW_skip ?_) (fun h => by cases h)
      simp only [zZ, reduceIte, Nat.reduceLT, Int.reduceToNat, Int.reduceLE, Int.reduceEq, Int.reduceLT, Nat.reduceEqDiff, Nat.reduceAdd]
      refine CW_block (CW_seq (CW_region ?_))
      simp only [zZ, reduceIte, Nat.reduceLT, Int.reduceToNat, Int.reduceLE, Int.reduceEq, Int.reduceLT, Nat.reduceEqDiff, Nat.reduceAdd, zMn]
      refine CW_cond (decide ((j : Int) < (i : Int))) (by rfl) (fun h => ?_) (fun h => ?_)
      · have h := of_decide_eq_true h
        obtain ⟨U1, U2, hUU, hU1⟩ : ∃ U1 U2, U' = U1 ++ U2 ∧ U1.length = j := ⟨U'.take j, U'.drop j, (List.take_append_drop j U').symm, by rw [List.length_take]; omega⟩
        have hU2 : U2.length = i - j := by have := congrArg List.length hUU; rw [List.length_append] at this; omega
        have wm : IntKind.i64.wrap ((m : Int) - (i : Int)) = ((A'.length : Nat) : Int) := by rw [wri (by omega) (by omega)]; omega
        have wi : IntKind.i64.wrap ((i : Int) - (j : Int)) = ((i - j : Nat) : Int) := by rw [wri (by omega) (by omega)]; omega
        refine CW_seq (CW_region ?_)
        simp only [zZ, reduceIte, Nat.reduceLT, Int.reduceToNat, Int.reduceLE, Int.reduceEq, Int.reduceLT, Nat.reduceEqDiff, Nat.reduceAdd, zMn, wm]
        refine ⟨by kernel_rfl, _, swapR_spec g n c M' A' U1 U2 V' B' A'.length m j (by rw [hUU] at hg'; simpa using hg') (by rw [hUU] at hL'; simpa using hL') hn2 rfl (by omega) hU1 hj _, ?_⟩
        rintro _ M2 ⟨rfl, hg2, ho2, hs2⟩
        simp only [zZ, reduceIte, Nat.reduceLT, Int.reduceToNat, Int.reduceLE, Int.reduceEq, Int.reduceLT, Nat.reduceEqDiff, Nat.reduceAdd, zMn]
        refine CW_region ?_
        simp only [zZ, reduceIte, Nat.reduceLT, Int.reduceToNat, Int.reduceLE, Int.reduceEq, Int.reduceLT, Nat.reduceEqDiff, Nat.reduceAdd, zMn, wi]
        refine ⟨[0, 2, 4, 10, 11], ?_⟩
        simp only [zZ, reduceIte, Nat.reduceLT, Int.reduceToNat, Int.reduceLE, Int.reduceEq, Int.reduceLT, Nat.reduceEqDiff, Nat.reduceAdd, keepF]
        refine ⟨M2, Thin.refl _, i - j + j, ⟨i - j, j, A' ++ V', U2, U1, B', rfl, rfl, hU2, hU1, by omega, hj0, by rw [List.length_append]; omega, by rw [← hT, hUU]; simp, by simpa using hg2, ho.trans ho2, by omega⟩, by omega⟩
      · have h := of_decide_eq_false h
        obtain ⟨V1, V2, hVV, hV2⟩ : ∃ V1 V2, V' = V1 ++ V2 ∧ V2.length = i := ⟨V'.take (j - i), V'.drop (j - i), (List.take_append_drop _ V').symm, by rw [List.length_drop]; omega⟩
        have hV1 : V1.length = j - i := by have := congrArg List.length hVV; rw [List.length_append] at this; omega
        have wm : IntKind.i64.wrap ((m : Int) - (i : Int)) = ((A'.length : Nat) : Int) := by rw [wri (by omega) (by omega)]; omega
        have wp : IntKind.i64.wrap ((m : Int) + (j : Int)) = ((m + j : Nat) : Int) := by rw [wri (by omega) (by omega)]; omega
        have wq : IntKind.i64.wrap (((m + j : Nat) : Int) - (i : Int)) = ((m + j - i : Nat) : Int) := by rw [wri (by omega) (by omega)]; omega
        have wi : IntKind.i64.wrap ((j : Int) - (i : Int)) = ((j - i : Nat) : Int) := by rw [wri (by omega) (by omega)]; omega
        refine CW_seq (CW_region ?_)
        simp only [zZ, reduceIte, Nat.reduceLT, Int.reduceToNat, Int.reduceLE, Int.reduceEq, Int.reduceLT, Nat.reduceEqDiff, Nat.reduceAdd, zMn, wm, wp, wq]
        refine ⟨by kernel_rfl, _, swapR_spec g n c M' A' U' V1 V2 B' A'.length (m + j - i) i (by rw [hVV] at hg'; simpa using hg') (by rw [hVV] at hL'; simpa using hL') hn2 rfl (by omega) hi hV2 _, ?_⟩
        rintro _ M2 ⟨rfl, hg2, ho2, hs2⟩
        simp only [zZ, reduceIte, Nat.reduceLT, Int.reduceToNat, Int.reduceLE, Int.reduceEq, Int.reduceLT, Nat.reduceEqDiff, Nat.reduceAdd, zMn]
        refine CW_region ?_
        simp only [zZ, reduceIte, Nat.reduceLT, Int.reduceToNat, Int.reduceLE, Int.reduceEq, Int.reduceLT, Nat.reduceEqDiff, Nat.reduceAdd, zMn, wi]
        refine ⟨[0, 2, 4, 10, 11], ?_⟩
        simp only [zZ, reduceIte, Nat.reduceLT, Int.reduceToNat, Int.reduceLE, Int.reduceEq, Int.reduceLT, Nat.reduceEqDiff, Nat.reduceAdd, keepF]
        refine ⟨M2, Thin.refl _, i + (j - i), ⟨i, j - i, A', V2, V1, U' ++ B', rfl, rfl, hV2, hV1, hi0, by omega, by omega, by rw [← hT, hVV]; simp, by simpa using hg2, ho.trans ho2, by omega⟩, by omega⟩
end Go.Proofs.YtabffcplbjaklaaGreatDoor
