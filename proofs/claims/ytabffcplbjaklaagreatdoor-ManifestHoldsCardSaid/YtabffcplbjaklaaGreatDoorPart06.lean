/-
  A region that draws its order, on the abstract machine: the rule.
  Drawn regions whose first operation behind the head (an append, say) does not wait for all of the head: what it does not wait for looks at slots alone.
  Drawn regions in phases: a head of operations in any order, some in the text's order behind it, then all that is left waits for all of these.
  The abstract machine's operations turn only blocks that may be written; a memory seen as one that may only be read.
  Values carried out at once: each of these is the identity, and its reckoning makes a literal.
  Trees in the place of lists: for frames and memories that are reckoned with.
  The abstract machine's operations over trees: what they answer, the operations over lists answer.
  The abstract machine's operations over trees: those that look at the memory, and all of them together.
  The abstract machine as a function over trees: what is needed of drawn regions.
  The abstract machine as a function over trees: its operations, one after the other.
  The abstract machine as a function over trees: code and calls; what it says of the model.
-/
import Derived.Test.YtabffcplbjaklaaGreatDoorPart05
import Derived.LoopN
set_option linter.unusedSimpArgs false
set_option linter.unusedVariables false
set_option linter.unusedSectionVars false
set_option linter.unnecessarySimpa false
set_option linter.defProp false
namespace Go.Proofs.YtabffcplbjaklaaGreatDoor.Abs
open Go
section
variable [Defs]
def leftN (f : Nat → Bool) : Nat → Nat
  | 0 => 0
  | n + 1 => leftN f n + if f n then 0 else 1
theorem leftN_add {f : Nat → Bool} {i : Nat} (hf : f i = false) : ∀ n, i < n → leftN (fun k => f k || k == i) n + 1 = leftN f n := by
  have low : ∀ n, n ≤ i → leftN (fun k => f k || k == i) n = leftN f n := by
    intro n
    induction n with
    | zero => intro _; rfl
    | succ n ih =>
      intro h
      have hne : (n == i) = false := by simp; omega
      simp only [leftN, hne, Bool.or_false, ih (by omega)]
  intro n
  induction n with
  | zero => intro h; omega
  | succ n ih =>
    intro h
    by_cases e : n = i
    · subst e
      simp only [leftN, hf, beq_self_eq_true, Bool.or_true, if_true, Bool.false_eq_true, if_false, low n (Nat.le_refl _)]
    · have hne : (n == i) = false := by simp; omega
      have := ih (by omega)
      simp only [leftN, hne, Bool.or_false]
      omega
theorem leftN_pos {f : Nat → Bool} {i : Nat} (hf : f i = false) : ∀ n, i < n → 0 < leftN f n
  | n + 1, h => by
    by_cases e : n = i
    · subst e; simp [leftN, hf]
    · have := leftN_pos hf n (by omega)
      simp only [leftN]; omega
theorem leftN_none : ∀ n, leftN (fun _ => false) n = n
  | 0 => rfl
  | n + 1 => by simp [leftN, leftN_none n]
theorem exists_first {f : Nat → Bool} : ∀ n, (∃ k, k < n ∧ f k = false) → ∃ k, k < n ∧ f k = false ∧ ∀ j, j < k → f j = true := by
  intro n
  induction n with
  | zero => rintro ⟨k, h, _⟩; omega
  | succ n ih =>
    rintro ⟨k, h, hk⟩
    by_cases h' : ∃ k, k < n ∧ f k = false
    · obtain ⟨j, h1, h2, h3⟩ := ih h'
      exact ⟨j, by omega, h2, h3⟩
    · refine ⟨k, h, hk, fun j hj => ?_⟩
      cases hf : f j
      · exact absurd ⟨j, by omega, hf⟩ h'
      · rfl
section
variable {P : Program} {ops : Array Oper} {a₀ : List Value} {m : Mem} {v : Nat → Value} {N : Nat → List (Option Blk)}
def getL (listed : Array Bool) (k : Nat) : Bool := listed.getD k false
theorem getL_set {listed : Array Bool} {i : Nat} (hi : i < listed.size) : getL (listed.setIfInBounds i true) = fun k => getL listed k || k == i := by
  funext k
  unfold getL
  by_cases e : k = i
  · subst e; simp [hi]
  · have hne : (k == i) = false := by simp [e]
    rw [getD_set_ne false (Ne.symm e), hne, Bool.or_false]
theorem ready_get {listed : Array Bool} (hsz : listed.size = ops.size) {j : Nat} : j ∈ Region.ready .any ops listed ↔ j < ops.size ∧ getL listed j = false ∧ ∃ o, ops[j]? = some o ∧ ∀ e ∈ o.after, Region.binds .any e = true → getL listed e.on = true := by
  rw [mem_ready]
  constructor
  · rintro ⟨h1, o, ho, h2⟩
    have hj := (Array.getElem?_eq_some_iff.1 ho).1
    refine ⟨hj, ?_, o, ho, h2⟩
    unfold getL
    rw [← h1]
    simp [Array.getD_eq_getD_getElem?, Array.getElem?_eq_getElem (show j < listed.size by omega)]
  · rintro ⟨hj, h1, o, ho, h2⟩
    refine ⟨?_, o, ho, h2⟩
    unfold getL at h1
    rw [← h1]
    simp [Array.getD_eq_getD_getElem?, Array.getElem?_eq_getElem (show j < listed.size by omega)]
theorem ready_some {listed : Array Bool} (hsz : listed.size = ops.size) (he : edgesBack ops.toList = true) (h : ∃ k, k < ops.size ∧ getL listed k = false) : Region.ready .any ops listed ≠ [] := by
  obtain ⟨k, h1, h2, h3⟩ := exists_first _ h
  intro hn
  have : k ∈ Region.ready .any ops listed := (ready_get hsz).2 ⟨h1, h2, ops[k], Array.getElem?_eq_getElem h1, fun e hm hb => h3 _ (edgesBack_spec he (Array.getElem?_eq_getElem h1) hm hb)⟩
  rw [hn] at this
  cases this
theorem tail_run {q : Nat} (hq : drawOK ops q = true) {Q : Exit → List Value → Mem → Prop} {ι₀ : Nat → Loc} {m₀ : Mem} {w₀ : World} : ∀ (l : List Oper) (k : Nat) (hk : q ≤ k) (hl : ops.toList.drop k = l) (fuel : Nat) (listed : Array Bool) (hsz : listed.size = ops.size)
    (hlist : ∀ j, j < ops.size → getL listed j = decide (j < k)) (hfuel : leftN (getL listed) ops.size ≤ fuel) (a : List Value) (m : Mem), aOps P ops.toList (Q .normal) l a m → ∀ (ι : Nat → Loc) (act : Act) (w : World), Step ι₀ m₀ w₀ ι m w → ARel m.Has ι a act → Rel ι m w →
    wpAny P .any ops (Post ι₀ m₀ w₀ Q) fuel listed act w := by
  have hq0 := hq
  simp only [drawOK, Bool.and_eq_true] at hq
  obtain ⟨⟨⟨hsel, hback⟩, hap⟩, hwait⟩ := hq
  intro l
  induction l with
  | nil =>
    intro k hk hl fuel listed hsz hlist hfuel a m h ι act w hs ha hr
    have hks : ops.size ≤ k := by
      have := congrArg List.length hl
      simp at this; omega
    have hrd : Region.ready .any ops listed = [] := by
      apply List.eq_nil_iff_forall_not_mem.2
      intro j hj
      obtain ⟨h1, h2, _⟩ := (ready_get hsz).1 hj
      rw [hlist j h1] at h2
      simp at h2; omega
    have hpost : Post ι₀ m₀ w₀ Q .normal act w := ⟨ι, a, m, h, ha, hr, hs⟩
    cases fuel with
    | zero => exact ⟨hrd, hpost⟩
    | succ fuel => exact ⟨fun _ => hpost, fun i hi => by rw [hrd] at hi; cases hi⟩
  | cons o l ih =>
    intro k hk hl fuel listed hsz hlist hfuel a m h ι act w hs ha hr
    have hks : k < ops.size := by
      have := congrArg List.length hl
      simp at this; omega
    have hko : ops[k]? = some o := by
      have := congrArg (fun l => l[0]?) hl
      simpa using this
    have hunl : getL listed k = false := by rw [hlist k hks]; simp
    have hpos := leftN_pos hunl ops.size hks
    cases fuel with
    | zero => omega
    | succ fuel =>
      refine ⟨fun hn => absurd hn (ready_some hsz hback ⟨k, hks, hunl⟩), fun i hi => ?_⟩
      obtain ⟨hilt, hiu, oi, hoi, hall⟩ := (ready_get hsz).1 hi
      have hik : i = k := by
        rw [hlist i hilt] at hiu
        have hge : k ≤ i := by simpa using hiu
        rcases Nat.lt_or_ge k i with hlt | hle
        · exfalso
          have hd : Down ops (getL listed) := by
            intro x ox hx hSx e hm hb
            have hxs := (Array.getElem?_eq_some_iff.1 hx).1
            rw [hlist x hxs] at hSx
            have hex := edgesBack_spec hback hx hm hb
            rw [hlist _ (by omega)]
            simp at hSx ⊢; omega
          have := hd.bef i oi hoi hall k (waitAll_spec hwait hilt (by omega) hlt)
          rw [hunl] at this; cases this
        · omega
      subst hik
      rw [hko] at hoi; cases hoi
      have hnext : ∀ (a' : List Value) (m' : Mem) (κ : Nat → Loc) (act' : Act) (w' : World), aOps P ops.toList (Q .normal) l a' m' → Step ι₀ m₀ w₀ κ m' w' → ARel m'.Has κ a' act' → Rel κ m' w' → wpAny P .any ops (Post ι₀ m₀ w₀ Q) fuel (listed.setIfInBounds i true) act' w' := by
        intro a' m' κ act' w' h' hs' ha' hr'
        refine ih (i + 1) (by omega) ?_ fuel _ (by simp [hsz]) (fun j hj => ?_) ?_ a' m' h' κ act' w' hs' ha' hr'
        · have := congrArg (List.drop 1) hl
          simpa using this
        · rw [getL_set (by omega)]
          simp only [hlist j hj]
          by_cases e : j = i
          · subst e; simp
          · have hne : (j == i) = false := by simp [e]
            rw [hne, Bool.or_false]
            congr 1
            apply propext
            omega
        · have := leftN_add hunl ops.size hks
          rw [getL_set (by omega)]
          omega
      have hy : yielded ops act.tmps = aYielded ops.toList a := funext fun j => yielded_rel ha ops j
      simp only [aOps] at h
      unfold wpOp
      simp only [hko, hy]
      split at h
      · rename_i hw
        rw [if_pos hw]
        left
        unfold Oper.wp
        replace h : (∃ v m', OSim P ι m w o act v m' ∧ aOps P ops.toList (Q .normal) l (aPut a o.dst v) m') ∨ (∃ k xs R, evCallee a o.op = some (k, xs) ∧ entered P k = true ∧ Spec P k xs m R ∧ ∀ v m', R v m' → aOps P ops.toList (Q .normal) l (aPut a o.dst v) m') := by
          rcases h with ⟨v, m', h1, h2⟩ | h | ⟨R, h1, h2⟩
          · exact .inl ⟨v, m', evOp_run hr ha h1, h2⟩
          · exact .inr h
          · obtain ⟨v, m', h3, h4⟩ := evAny_run hr ha h1
            exact .inl ⟨v, m', h4, h2 v m' h3⟩
        rcases h with ⟨v, m', h1, h2⟩ | ⟨f, xs, R, h1, he, hsp, h2⟩
        · obtain ⟨v', w', κ, hran, hv, hr', hs'⟩ := h1
          have ha' : ARel m'.Has κ (aPut a o.dst v) (act.put o.dst v') := (ha.mono hs'.grows hs'.at_).put' o.dst hv
          have := hnext _ _ κ _ w' h2 (hs.trans hs') ha' hr'
          rcases hran with hran | ⟨hran, rfl⟩
          · rw [hran, Oper.upon_value]; exact this
          · rw [hran, Oper.upon_skip]; exact this
        · obtain ⟨ys, hys, hrun⟩ := evCallee_run ha h1 he
          rw [hrun w, Oper.upon_enter]
          refine (hsp ι w ys hys hr).mono ?_
          rintro e w' ⟨v, v', κ, m', hR, rfl, hv, hr', hs'⟩
          have ha' : ARel m'.Has κ (aPut a o.dst v) (act.put o.dst v') := (ha.mono hs'.grows hs'.at_).put' o.dst hv
          exact hnext _ _ κ _ w' (h2 v m' hR) (hs.trans hs') ha' hr'
      · rename_i hw
        rw [if_neg hw]
        exact hnext _ _ ι _ w h hs (ha.put' o.dst undef_rel) hr
def allS : Nat → Bool := fun _ => true
theorem head_run {q : Nat} (hq : drawOK ops q = true) (hqs : q ≤ ops.size) (ha₀ : ∀ (t : Nat) (x : Value), a₀[t]? = some x → Cl m.Has x) (hm : ∀ b x, m.get b = some x → ClBlk m.Has x)
    (hd : ∀ i o, i < q → ops[i]? = some o → DOp P ops a₀ m v N i o) {Q : Exit → List Value → Mem → Prop} {ι₀ : Nat → Loc} {m₀ : Mem} {w₀ : World}
    (ht : aOps P ops.toList (Q .normal) (ops.toList.drop q) (frameAt ops v allS a₀ q) (memAt m N allS q)) : ∀ (fuel : Nat) (listed : Array Bool) (_ : listed.size = ops.size) (_ : leftN (getL listed) ops.size ≤ fuel) (κ : Nat → Loc) (act : Act) (w : World), Inv ops a₀ m v N q ι₀ m₀ w₀ (getL listed) κ act w →
    wpAny P .any ops (Post ι₀ m₀ w₀ Q) fuel listed act w := by
  have hq0 := hq
  simp only [drawOK, Bool.and_eq_true] at hq
  obtain ⟨⟨⟨hsel, hback⟩, hap⟩, hwait⟩ := hq
  intro fuel
  induction fuel with
  | zero =>
    intro listed hsz hfuel κ act w h
    have hall : ∀ j, j < q → getL listed j = true := fun j hj => by
      cases hg : getL listed j
      · have := leftN_pos hg ops.size (by omega); omega
      · rfl
    have hmem : memAt m N (getL listed) q = memAt m N allS q := by unfold memAt; rw [newsAt_congr (T := allS) q fun k hk => hall k hk]
    have hfr : frameAt ops v (getL listed) a₀ q = frameAt ops v allS a₀ q := by
      apply List.ext_getElem?
      intro t
      exact frameAt_get t q fun k hk _ => hall k hk
    refine tail_run hq0 _ q (Nat.le_refl _) rfl 0 listed hsz (fun j hj => ?_) hfuel _ _ ht κ act w (by rw [← hmem]; exact h.step) (by rw [← hmem, ← hfr]; exact h.frame) (by rw [← hmem]; exact h.rel)
    rcases Nat.lt_or_ge j q with hlt | hge
    · rw [hall j hlt]; simp [hlt]
    · rw [h.low j hge]; simp; omega
  | succ fuel ih =>
    intro listed hsz hfuel κ act w h
    by_cases hall : ∀ j, j < q → getL listed j = true
    · have hmem : memAt m N (getL listed) q = memAt m N allS q := by unfold memAt; rw [newsAt_congr (T := allS) q fun k hk => hall k hk]
      have hfr : frameAt ops v (getL listed) a₀ q = frameAt ops v allS a₀ q := by
        apply List.ext_getElem?
        intro t
        exact frameAt_get t q fun k hk _ => hall k hk
      refine tail_run hq0 _ q (Nat.le_refl _) rfl (fuel + 1) listed hsz (fun j hj => ?_) hfuel _ _ ht κ act w (by rw [← hmem]; exact h.step) (by rw [← hmem, ← hfr]; exact h.frame) (by rw [← hmem]; exact h.rel)
      rcases Nat.lt_or_ge j q with hlt | hge
      · rw [hall j hlt]; simp [hlt]
      · rw [h.low j hge]; simp; omega
    · have hex : ∃ j, j < q ∧ getL listed j = false := by
        rcases Classical.em (∃ j, j < q ∧ getL listed j = false) with h' | h'
        · exact h'
        · refine absurd (fun j hj => ?_) hall
          cases hg : getL listed j
          · exact absurd ⟨j, hj, hg⟩ h'
          · rfl
      obtain ⟨j, hj, hjf⟩ := hex
      refine ⟨fun hn => absurd hn (ready_some hsz hback ⟨j, by omega, hjf⟩), fun i hi => ?_⟩
      obtain ⟨hilt, hiu, oi, hoi, hallE⟩ := (ready_get hsz).1 hi
      have hiq : i < q := by
        rcases Nat.lt_or_ge i q with hlt | hge
        · exact hlt
        · exfalso
          have := h.down.bef i oi hoi hallE j (waitAll_spec hwait hilt hge (by omega))
          rw [hjf] at this; cases this
      refine h.op (drawOK_head hq0) hqs ha₀ hm hoi hiq hiu hallE (hd i oi hiq hoi) fun κ' act' w' h' => ?_
      refine ih _ (by simp [hsz]) ?_ κ' act' w' (by rw [getL_set (by omega)]; exact h')
      have := leftN_add hiu ops.size hilt
      rw [getL_set (by omega)]
      omega
theorem memAt_none_rel {κ : Nat → Loc} {w : World} (n : Nat) (h : Rel κ m w) : Rel κ (memAt m N (fun _ => false) n) w := by
  have hg : ∀ b x, (memAt m N (fun _ => false) n).get b = some x → m.get b = some x := fun b x hb => by
    rcases (memAt_get _ _ _ _).1 hb with ⟨_, h1⟩ | ⟨k, _, h1, _⟩
    · exact h1
    · cases h1
  refine ⟨fun b ro s cs hb => ?_, fun b x hb => (h.oth b x (hg _ _ hb)).mono (fun c hc => (memAt_has _ _ _).2 (.inl hc)) fun _ _ => rfl, fun b b' hb hb' => ?_, ⟨h.glob.known, fun b ⟨y, hb, hy⟩ => h.glob.own b ⟨y, hg _ _ hb, hy⟩⟩⟩
  · obtain ⟨C, e, fz, h1, h2, h3, h4, h5, h6⟩ := h.at' b ro s cs (hg _ _ hb)
    refine ⟨C, e, fz, h1, h2, h3, h4, fun i v hi => ?_, h6⟩
    obtain ⟨h7, v', h8, h9⟩ := h5 i v hi
    exact ⟨h7, v', h8, h9.mono (fun c hc => (memAt_has _ _ _).2 (.inl hc)) fun _ _ => rfl⟩
  · refine h.inj b b' ?_ ?_
    · obtain ⟨x, hx⟩ := Option.ne_none_iff_exists'.1 hb
      rw [hg _ _ hx]; simp
    · obtain ⟨y, hx, hy⟩ := hb'
      exact ⟨y, hg _ _ hx, hy⟩
theorem AW_draw {id : Nat} {Q : Exit → List Value → Mem → Prop} (hmix : P.follows .mixedOrders = true) (q : Nat) (hq : drawOK ops q = true) (hqs : q ≤ ops.size)
    (v : Nat → Value) (N : Nat → List (Option Blk)) (hd : ∀ i o, i < q → ops[i]? = some o → DOp P ops a₀ m v N i o)
    (ht : aOps P ops.toList (Q .normal) (ops.toList.drop q) (frameAt ops v allS a₀ q) (memAt m N allS q)) : AW P (.region id ops true) Q a₀ m := by
  intro ι₀ m₀ w₀ ι act w hs ha hr
  refine wp_region_any hmix ?_
  have hr' : Rel ι m { w with drawn := w.drawn + 1 } := ⟨hr.at', hr.oth, hr.inj, ⟨hr.glob.known.keep fun _ _ => rfl, hr.glob.own⟩⟩
  have hs' : Step ι₀ m₀ w₀ ι m { w with drawn := w.drawn + 1 } := ⟨hs.os, hs.tape, hs.output, hs.size, hs.grows, hs.at_, hs.block, hs.own⟩
  have hcl : ∀ (t : Nat) (x : Value), a₀[t]? = some x → Cl m.Has x := fun t x hx => by
    obtain ⟨y, _, hy⟩ := ha.tmps.get hx
    exact hy.cl
  have hmc := hr.clBlk
  have hgl : getL (Array.replicate ops.size false) = fun _ => false := by
    funext k
    unfold getL
    rw [Array.getD_eq_getD_getElem?, Array.getElem?_replicate]
    split <;> rfl
  have hfr : ∀ n, frameAt ops v (fun _ => false) a₀ n = a₀ := by
    intro n
    induction n with
    | zero => rfl
    | succ n ih => simp [frameAt, ih]
  refine head_run hq hqs hcl hmc hd ht ops.size _ (by simp) (by rw [hgl, leftN_none]; exact Nat.le_refl _) ι act _ ?_
  rw [hgl]
  refine ⟨fun k o _ h => absurd h (by simp), fun _ _ => rfl, ?_, memAt_none_rel q hr', ?_, fun k _ h => absurd h (by simp), fun k _ h => absurd h (by simp)⟩
  · rw [hfr]
    exact ha.mono (fun c hc => (memAt_has _ _ _).2 (.inl hc)) fun _ _ => rfl
  · refine hs'.trans ⟨rfl, rfl, rfl, Nat.le_refl _, fun b hb => (memAt_has _ _ _).2 (.inl hb), fun _ _ => rfl, fun _ _ _ => rfl, fun b hb => .inr ⟨b, ?_, rfl⟩⟩
    obtain ⟨y, hx, hy⟩ := hb
    rcases (memAt_get _ _ _ _).1 hx with ⟨_, h1⟩ | ⟨k, _, h1, _⟩
    · exact ⟨y, h1, hy⟩
    · cases h1
end
end
end Go.Proofs.YtabffcplbjaklaaGreatDoor.Abs
namespace Go.Proofs.YtabffcplbjaklaaGreatDoor.Abs
open Go
section
variable [Defs]
section
variable {P : Program} {ops : Array Oper} {a₀ : List Value} {m : Mem} {v : Nat → Value} {N : Nat → List (Option Blk)}
theorem newsAt_nil {S T : Nat → Bool} : ∀ n, (∀ k, k < n → S k = T k ∨ N k = []) → newsAt N S n = newsAt N T n
  | 0, _ => rfl
  | n + 1, h => by
    simp only [newsAt]
    rw [newsAt_nil n fun k hk => h k (by omega)]
    rcases h n (by omega) with e | e
    · rw [e]
    · rw [e]; rfl
theorem slot_of {q : Nat} (hap : apartAll ops (befM ops.toList) q = true) (hqs : q ≤ ops.size) {S : Nat → Bool} (hdown : Down ops S) {i : Nat} {o : Oper} (hi : ops[i]? = some o) (hiq : i < q) (hS : S i = false)
    (hsub : ∀ j, B ops i j = true → S j = true) : ∀ t, t ∈ o.looksAt ops → (frameAt ops v S a₀ q)[t]? = (frB ops a₀ v i)[t]? := by
  have looks : ∀ t, t ∈ o.looksAt ops → ∀ k, k < q → (ops[k]?).bind (·.dst) = some t → S k = true → k < i ∧ B ops i k = true := by
    intro t ht k hk hdst hSk
    cases hok : ops[k]? with
    | none => rw [hok] at hdst; cases hdst
    | some ok =>
      rw [hok] at hdst
      simp only [Option.bind_some] at hdst
      rcases Nat.lt_trichotomy k i with hlt | heq | hgt
      · refine ⟨hlt, ?_⟩
        cases hb : B ops i k
        · exact absurd ht ((Oper.apart_spec (apartAll_spec hap hlt hiq hok hi hb)).1 t hdst)
        · rfl
      · subst heq; rw [hSk] at hS; cases hS
      · exfalso
        cases hb : B ops k i
        · exact absurd ht ((Oper.apart_spec (apartAll_spec hap hgt hk hi hok hb)).2.2 t hdst)
        · have := hdown.bef k ok hok (hdown k ok hok hSk) i hb
          rw [hS] at this; cases this
  intro t ht
  have e1 : (frameAt ops v S a₀ q)[t]? = (frameAt ops v (fun k => B ops i k && decide (k < i)) a₀ q)[t]? := frameAt_get t q fun k hk hdst => by
    cases hSk : S k
    · cases hb : B ops i k
      · simp
      · rw [hsub k hb] at hSk; cases hSk
    · obtain ⟨h1, h2⟩ := looks t ht k hk hdst hSk
      simp [h1, h2]
  rw [e1, frameAt_tail (i := i) q (by omega) (fun k h1 _ => by simp; omega)]
  exact frameAt_get t i fun k hk _ => by simp [hk]
theorem ev_looks {o : Oper} {a b : List Value} (h : ∀ t, t ∈ o.looksAt ops → a[t]? = b[t]?) : ∀ x ∈ o.op.operands, aEval a x = aEval b x := by
  intro x hx
  cases x with
  | tmp t =>
    simp only [aEval]
    refine h t ?_
    simp only [Oper.looksAt, List.mem_append, List.mem_filterMap]
    exact .inl ⟨.tmp t, by simpa using hx, rfl⟩
  | _ => rfl
theorem wanted_free {o : Oper} (h : o.guard = none) (f : Nat → Option Bool) : Region.wanted o f = true := by unfold Region.wanted; rw [h]
theorem left_none {f : Nat → Bool} {n : Nat} (h : leftN f n ≤ 0) : ∀ j, j < n → f j = true := fun j hj => by
  cases hg : f j
  · have := leftN_pos hg n hj; omega
  · rfl
def Idle (P : Program) (ops : Array Oper) (a₀ : List Value) (v : Nat → Value) (M' : Mem) (i : Nat) (o : Oper) : Prop :=
  if Region.wanted o (aYielded ops.toList (frB ops a₀ v i)) = true then evOp P o.op (frB ops a₀ v i) M' = some (v i, M') else v i = undef
theorem Idle.free {M' : Mem} {i : Nat} {o : Oper} (hg : o.guard = none) (h : evOp P o.op (frB ops a₀ v i) M' = some (v i, M')) : Idle P ops a₀ v M' i o := by
  unfold Idle
  rw [if_pos (wanted_free hg _)]
  exact h
theorem mid_run {q : Nat} (hq : drawOK ops (q + 1) = true) (hqs : q < ops.size) {oq : Oper} (hoq : ops[q]? = some oq)
    {Q : Exit → List Value → Mem → Prop} {ι₀ : Nat → Loc} {m₀ : Mem} {w₀ : World} {vq : Value} {M' : Mem}
    (hst : ∀ i o, i < q → ops[i]? = some o → B ops q i = false → Idle P ops a₀ v M' i o)
    (ht : aOps P ops.toList (Q .normal) (ops.toList.drop (q + 1)) (aPut (frameAt ops v allS a₀ q) oq.dst vq) M') : ∀ (fuel : Nat) (listed : Array Bool) (_ : listed.size = ops.size) (_ : leftN (getL listed) ops.size ≤ fuel)
    (_ : Down ops (getL listed)) (_ : getL listed q = true) (_ : ∀ j, q < j → getL listed j = false) (κ : Nat → Loc) (act : Act) (w : World),
    ARel M'.Has κ (aPut (frameAt ops v (getL listed) a₀ q) oq.dst vq) act → Rel κ M' w → Step ι₀ m₀ w₀ κ M' w → wpAny P .any ops (Post ι₀ m₀ w₀ Q) fuel listed act w := by
  have hq0 := hq
  simp only [drawOK, Bool.and_eq_true] at hq
  obtain ⟨⟨⟨hsel, hback⟩, hap⟩, hwait⟩ := hq
  have hapq : apartAll ops (befM ops.toList) q = true := by
    simp only [apartAll, Bool.and_eq_true] at hap
    exact hap.1
  have done : ∀ (fuel : Nat) (listed : Array Bool) (_ : listed.size = ops.size) (_ : leftN (getL listed) ops.size ≤ fuel) (_ : getL listed q = true) (_ : ∀ j, q < j → getL listed j = false) (κ : Nat → Loc) (act : Act) (w : World),
      ARel M'.Has κ (aPut (frameAt ops v (getL listed) a₀ q) oq.dst vq) act → Rel κ M' w → Step ι₀ m₀ w₀ κ M' w → (∀ j, j < q → getL listed j = true) → wpAny P .any ops (Post ι₀ m₀ w₀ Q) fuel listed act w := by
    intro fuel listed hsz hfuel hlq hhi κ act w ha hr hs hall
    have hfr : frameAt ops v (getL listed) a₀ q = frameAt ops v allS a₀ q := by
      apply List.ext_getElem?
      intro t
      exact frameAt_get t q fun k hk _ => hall k hk
    rw [hfr] at ha
    refine tail_run hq0 _ (q + 1) (Nat.le_refl _) rfl fuel listed hsz (fun j hj => ?_) hfuel _ _ ht κ act w hs ha hr
    rcases Nat.lt_trichotomy j q with h | h | h
    · rw [hall j h]; simp; omega
    · subst h; rw [hlq]; simp
    · rw [hhi j h]; simp; omega
  intro fuel
  induction fuel with
  | zero =>
    intro listed hsz hfuel hdown hlq hhi κ act w ha hr hs
    exact done 0 listed hsz hfuel hlq hhi κ act w ha hr hs fun j hj => left_none hfuel j (by omega)
  | succ fuel ih =>
    intro listed hsz hfuel hdown hlq hhi κ act w ha hr hs
    by_cases hall : ∀ j, j < q → getL listed j = true
    · exact done (fuel + 1) listed hsz hfuel hlq hhi κ act w ha hr hs hall
    · have hex : ∃ j, j < q ∧ getL listed j = false := by
        rcases Classical.em (∃ j, j < q ∧ getL listed j = false) with h' | h'
        · exact h'
        · refine absurd (fun j hj => ?_) hall
          cases hg : getL listed j
          · exact absurd ⟨j, hj, hg⟩ h'
          · rfl
      obtain ⟨j, hj, hjf⟩ := hex
      refine ⟨fun hn => absurd hn (ready_some hsz hback ⟨j, by omega, hjf⟩), fun i hi => ?_⟩
      obtain ⟨hilt, hiu, oi, hoi, hallE⟩ := (ready_get hsz).1 hi
      have hiq : i < q := by
        rcases Nat.lt_trichotomy i q with h | h | h
        · exact h
        · subst h; rw [hlq] at hiu; cases hiu
        · exfalso
          have := hdown.bef i oi hoi hallE j (waitAll_spec hwait hilt (by omega) (by omega))
          rw [hjf] at this; cases this
      have hbq : B ops q i = false := by
        cases hb : B ops q i
        · rfl
        · have := hdown.bef q oq hoq (hdown q oq hoq hlq) i hb
          rw [hiu] at this; cases this
      have hI := hst i oi hiq hoi hbq
      have hap3 := Oper.apart_spec (apartAll_spec hap hiq (Nat.lt_succ_self q) hoi hoq hbq)
      have hsub : ∀ k, B ops i k = true → getL listed k = true := fun k hk => hdown.bef i oi hoi hallE k hk
      have hsl : ∀ t, t ∈ oi.looksAt ops → (aPut (frameAt ops v (getL listed) a₀ q) oq.dst vq)[t]? = (frB ops a₀ v i)[t]? := fun t htl => by
        rw [aPut_get _ _ _ _ (fun e => hap3.2.2 t e htl)]
        exact slot_of hapq (by omega) hdown hoi hiq hiu hsub t htl
      have hw : Region.wanted oi (yielded ops act.tmps) = Region.wanted oi (aYielded ops.toList (frB ops a₀ v i)) := by
        refine wanted_congr oi fun g b hg => ?_
        rw [yielded_rel ha ops g]
        unfold aYielded
        simp only [Array.getElem?_toList]
        cases hog : ops[g]? with
        | none => rfl
        | some og =>
          cases hdg : og.dst with
          | none => simp [hdg]
          | some t =>
            simp only [hdg]
            rw [hsl t (by simp [Oper.looksAt, hg, hog, hdg])]
      have hgl := getL_set (listed := listed) (i := i) (by omega)
      have hnx : ∀ (κ' : Nat → Loc) (v' : Value) (w' : World), VRel M'.Has κ' (v i) v' → Rel κ' M' w' → Step κ M' w κ' M' w' → wpAny P .any ops (Post ι₀ m₀ w₀ Q) fuel (listed.setIfInBounds i true) (act.put oi.dst v') w' := by
        intro κ' v' w' hv hr' hs'
        have ha' : ARel M'.Has κ' (aPut (aPut (frameAt ops v (getL listed) a₀ q) oq.dst vq) oi.dst (v i)) (act.put oi.dst v') := (ha.mono hs'.grows hs'.at_).put' oi.dst hv
        refine ih _ (by simp [hsz]) ?_ ?_ ?_ (fun k hk => ?_) κ' _ w' ?_ hr' (hs.trans hs')
        · have := leftN_add hiu ops.size hilt
          rw [hgl]
          omega
        · rw [hgl]
          intro k ok hk hSk e he hb
          simp only [Bool.or_eq_true, beq_iff_eq] at hSk ⊢
          rcases hSk with hSk | rfl
          · exact .inl (hdown k ok hk hSk e he hb)
          · rw [hoi] at hk; cases hk
            exact .inl (hallE e he hb)
        · rw [hgl]; simp [hlq]
        · rw [hgl]
          have : (k == i) = false := by simp; omega
          simp [hhi k hk, this]
        · rw [hgl, frameAt_add hiu q hiq fun k h2 h3 hk t ht' hkt => ?_]
          · rw [hoi]
            simp only [Option.bind_some]
            rw [aPut_comm _ _ _ _ _ (fun t e1 e2 => hap3.2.1 t e2 e1)] at ha'
            exact ha'
          · have hkk : ops[k]? = some ops[k] := Array.getElem?_eq_getElem (by omega)
            rw [hoi] at ht'
            rw [hkk] at hkt
            cases hb : B ops k i
            · exact (Oper.apart_spec (apartAll_spec hapq h2 h3 hoi hkk hb)).2.1 t ht' hkt
            · have := hdown.bef k _ hkk (hdown k _ hkk hk) i hb
              rw [hiu] at this; cases this
      unfold wpOp
      simp only [hoi]
      rw [hw]
      unfold Idle at hI
      split
      · rename_i hwant
        rw [if_pos hwant] at hI
        have h1 : evOp P oi.op (aPut (frameAt ops v (getL listed) a₀ q) oq.dst vq) M' = some (v i, M') := by
          rw [evOp_congr P oi.op M' (ev_looks hsl)]
          exact hI
        obtain ⟨v', w', κ', hran, hv, hr', hs'⟩ := evOp_run hr ha h1
        left
        unfold Oper.wp
        rcases hran with hran | ⟨hran, rfl⟩
        · rw [hran, Oper.upon_value]; exact hnx κ' v' w' hv hr' hs'
        · rw [hran, Oper.upon_skip]; exact hnx κ' _ w' hv hr' hs'
      · rename_i hwant
        rw [if_neg hwant] at hI
        exact hnx κ _ w (by rw [hI]; exact undef_rel) hr (.refl _ _ _)
theorem head_run2R {q : Nat} (hq : drawOK ops (q + 1) = true) (hqs : q < ops.size) {oq : Oper} (hoq : ops[q]? = some oq) (hgq : oq.guard = none) (ha₀ : ∀ (t : Nat) (x : Value), a₀[t]? = some x → Cl m.Has x) (hm : ∀ b x, m.get b = some x → ClBlk m.Has x)
    (hd : ∀ i o, i < q → ops[i]? = some o → DOp P ops a₀ m v N i o)
    {Q : Exit → List Value → Mem → Prop} {ι₀ : Nat → Loc} {m₀ : Mem} {w₀ : World} {R : Value → Mem → Prop}
    (hN : ∀ i o, i < q → ops[i]? = some o → B ops q i = false → N i = [])
    (hevq : OpSim P oq (frameAt ops v allS a₀ q) (memAt m N allS q) R)
    (hall' : ∀ vq M', R vq M' → (∀ i o, i < q → ops[i]? = some o → B ops q i = false → Idle P ops a₀ v M' i o) ∧
      aOps P ops.toList (Q .normal) (ops.toList.drop (q + 1)) (aPut (frameAt ops v allS a₀ q) oq.dst vq) M') : ∀ (fuel : Nat) (listed : Array Bool) (_ : listed.size = ops.size) (_ : leftN (getL listed) ops.size ≤ fuel) (κ : Nat → Loc) (act : Act) (w : World), Inv ops a₀ m v N q ι₀ m₀ w₀ (getL listed) κ act w →
    wpAny P .any ops (Post ι₀ m₀ w₀ Q) fuel listed act w := by
  have hq0 := hq
  have hho := headOK_less (drawOK_head hq)
  simp only [drawOK, Bool.and_eq_true] at hq
  obtain ⟨⟨⟨hsel, hback⟩, hap⟩, hwait⟩ := hq
  intro fuel
  induction fuel with
  | zero =>
    intro listed hsz hfuel κ act w h
    have := left_none hfuel q hqs
    rw [h.low q (Nat.le_refl _)] at this
    cases this
  | succ fuel ih =>
    intro listed hsz hfuel κ act w h
    have hlq := h.low q (Nat.le_refl _)
    refine ⟨fun hn => absurd hn (ready_some hsz hback ⟨q, hqs, hlq⟩), fun i hi => ?_⟩
    obtain ⟨hilt, hiu, oi, hoi, hallE⟩ := (ready_get hsz).1 hi
    rcases Nat.lt_trichotomy i q with hiq | rfl | hiq
    · refine h.op hho (by omega) ha₀ hm hoi hiq hiu hallE (hd i oi hiq hoi) fun κ' act' w' h' => ?_
      refine ih _ (by simp [hsz]) ?_ κ' act' w' (by rw [getL_set (by omega)]; exact h')
      have := leftN_add hiu ops.size hilt
      rw [getL_set (by omega)]
      omega
    · rw [hoq] at hoi; cases hoi
      have hsub : ∀ k, B ops i k = true → getL listed k = true := fun k hk => h.down.bef i oq hoq hallE k hk
      have hpend : ∀ k, k < i → getL listed k = false → B ops i k = false := fun k hk hf => by
        cases hb : B ops i k
        · rfl
        · rw [hsub k hb] at hf; cases hf
      have hmem : memAt m N (getL listed) i = memAt m N allS i := by
        unfold memAt
        rw [newsAt_nil (T := allS) i fun k hk => ?_]
        cases hf : getL listed k
        · exact .inr (hN k _ hk (Array.getElem?_eq_getElem (by omega)) (hpend k hk hf))
        · exact .inl rfl
      have hsl : ∀ t, t ∈ oq.looksAt ops → (frameAt ops v (getL listed) a₀ i)[t]? = (frameAt ops v allS a₀ i)[t]? := fun t htl => frameAt_get t i fun k hk hdst => by
        cases hf : getL listed k
        · exfalso
          have hkk : ops[k]? = some ops[k] := Array.getElem?_eq_getElem (by omega)
          rw [hkk] at hdst
          exact (Oper.apart_spec (apartAll_spec hap hk (Nat.lt_succ_self i) hkk hoq (hpend k hk hf))).1 t hdst htl
        · rfl
      unfold wpOp
      simp only [hoq]
      rw [wanted_free hgq]
      left
      refine hevq (frameAt ops v (getL listed) a₀ i) κ act act w _ _ (fun x hx => (ev_looks (o := oq) hsl x hx).symm) (by rw [← hmem]; exact h.frame) (by rw [← hmem]; exact h.rel) rfl ?_
      intro vq M' v' w' κ' hR hv hr' hs'
      rw [← hmem] at hs'
      obtain ⟨hst, ht⟩ := hall' vq M' hR
      have ha' : ARel M'.Has κ' (aPut (frameAt ops v (getL listed) a₀ i) oq.dst vq) (act.put oq.dst v') := (h.frame.mono hs'.grows hs'.at_).put' oq.dst hv
      have hgl := getL_set (listed := listed) (i := i) (by omega)
      have hnx : wpAny P .any ops (Post ι₀ m₀ w₀ Q) fuel (listed.setIfInBounds i true) (act.put oq.dst v') w' := by
        refine mid_run hq0 hqs hoq hst ht fuel _ (by simp [hsz]) ?_ ?_ ?_ (fun k hk => ?_) κ' _ w' ?_ hr' (h.step.trans hs')
        · have := leftN_add hiu ops.size hilt
          rw [hgl]
          omega
        · rw [hgl]
          intro k ok hk hSk e he hb
          simp only [Bool.or_eq_true, beq_iff_eq] at hSk ⊢
          rcases hSk with hSk | rfl
          · exact .inl (h.down k ok hk hSk e he hb)
          · rw [hoq] at hk; cases hk
            exact .inl (hallE e he hb)
        · rw [hgl]; simp
        · rw [hgl]
          have : (k == i) = false := by simp; omega
          simp [h.low k (by omega), this]
        · have : frameAt ops v (getL (listed.setIfInBounds i true)) a₀ i = frameAt ops v (getL listed) a₀ i := by
            apply List.ext_getElem?
            intro t
            refine frameAt_get t i fun k hk _ => ?_
            rw [hgl]
            have : (k == i) = false := by simp; omega
            simp [this]
          rw [this]
          exact ha'
      exact hnx
    · exfalso
      have := h.down.bef i oi hoi hallE q (waitAll_spec hwait hilt (by omega) (by omega))
      rw [hlq] at this; cases this
theorem head_run2 {q : Nat} (hq : drawOK ops (q + 1) = true) (hqs : q < ops.size) {oq : Oper} (hoq : ops[q]? = some oq) (hgq : oq.guard = none) (ha₀ : ∀ (t : Nat) (x : Value), a₀[t]? = some x → Cl m.Has x) (hm : ∀ b x, m.get b = some x → ClBlk m.Has x)
    (hd : ∀ i o, i < q → ops[i]? = some o → DOp P ops a₀ m v N i o)
    {Q : Exit → List Value → Mem → Prop} {ι₀ : Nat → Loc} {m₀ : Mem} {w₀ : World} {vq : Value} {M' : Mem}
    (hst : ∀ i o, i < q → ops[i]? = some o → B ops q i = false → o.guard = none ∧ evOp P o.op (frB ops a₀ v i) M' = some (v i, M') ∧ N i = [])
    (hevq : evOp P oq.op (frameAt ops v allS a₀ q) (memAt m N allS q) = some (vq, M'))
    (ht : aOps P ops.toList (Q .normal) (ops.toList.drop (q + 1)) (aPut (frameAt ops v allS a₀ q) oq.dst vq) M') : ∀ (fuel : Nat) (listed : Array Bool) (_ : listed.size = ops.size) (_ : leftN (getL listed) ops.size ≤ fuel) (κ : Nat → Loc) (act : Act) (w : World), Inv ops a₀ m v N q ι₀ m₀ w₀ (getL listed) κ act w →
    wpAny P .any ops (Post ι₀ m₀ w₀ Q) fuel listed act w := by
  exact head_run2R hq hqs hoq hgq ha₀ hm hd (fun i o hi ho hb => (hst i o hi ho hb).2.2) (OpSim.op (R := fun u M => u = vq ∧ M = M') hevq ⟨rfl, rfl⟩) (fun u M ⟨h1, h2⟩ => by subst h1; subst h2; exact ⟨fun i o hi ho hb => .free (hst i o hi ho hb).1 (hst i o hi ho hb).2.1, ht⟩)
theorem AW_draw6 {id : Nat} {Q : Exit → List Value → Mem → Prop} (hmix : P.follows .mixedOrders = true) (q : Nat) (hq1 : drawOK ops (q + 1) = true) (hqs : q < ops.size) {oq : Oper} (hoq : ops[q]? = some oq) (hgq : oq.guard = none)
    (v : Nat → Value) (N : Nat → List (Option Blk)) (hd : ∀ i o, i < q → ops[i]? = some o → DOp P ops a₀ m v N i o) {R : Value → Mem → Prop}
    (hN : ∀ i o, i < q → ops[i]? = some o → B ops q i = false → N i = [])
    (hevq : OpSim P oq (frameAt ops v allS a₀ q) (memAt m N allS q) R)
    (hall' : ∀ vq M', R vq M' → (∀ i o, i < q → ops[i]? = some o → B ops q i = false → Idle P ops a₀ v M' i o) ∧
      aOps P ops.toList (Q .normal) (ops.toList.drop (q + 1)) (aPut (frameAt ops v allS a₀ q) oq.dst vq) M') : AW P (.region id ops true) Q a₀ m := by
  intro ι₀ m₀ w₀ ι act w hs ha hr
  refine wp_region_any hmix ?_
  have hr' : Rel ι m { w with drawn := w.drawn + 1 } := ⟨hr.at', hr.oth, hr.inj, ⟨hr.glob.known.keep fun _ _ => rfl, hr.glob.own⟩⟩
  have hs' : Step ι₀ m₀ w₀ ι m { w with drawn := w.drawn + 1 } := ⟨hs.os, hs.tape, hs.output, hs.size, hs.grows, hs.at_, hs.block, hs.own⟩
  have hcl : ∀ (t : Nat) (x : Value), a₀[t]? = some x → Cl m.Has x := fun t x hx => by
    obtain ⟨y, _, hy⟩ := ha.tmps.get hx
    exact hy.cl
  have hmc := hr.clBlk
  have hgl : getL (Array.replicate ops.size false) = fun _ => false := by
    funext k
    unfold getL
    rw [Array.getD_eq_getD_getElem?, Array.getElem?_replicate]
    split <;> rfl
  have hfr : ∀ n, frameAt ops v (fun _ => false) a₀ n = a₀ := by
    intro n
    induction n with
    | zero => rfl
    | succ n ih => simp [frameAt, ih]
  refine head_run2R hq1 hqs hoq hgq hcl hmc hd hN hevq hall' ops.size _ (by simp) (by rw [hgl, leftN_none]; exact Nat.le_refl _) ι act _ ?_
  rw [hgl]
  refine ⟨fun k o _ h => absurd h (by simp), fun _ _ => rfl, ?_, memAt_none_rel q hr', ?_, fun k _ h => absurd h (by simp), fun k _ h => absurd h (by simp)⟩
  · rw [hfr]
    exact ha.mono (fun c hc => (memAt_has _ _ _).2 (.inl hc)) fun _ _ => rfl
  · refine hs'.trans ⟨rfl, rfl, rfl, Nat.le_refl _, fun b hb => (memAt_has _ _ _).2 (.inl hb), fun _ _ => rfl, fun _ _ _ => rfl, fun b hb => .inr ⟨b, ?_, rfl⟩⟩
    obtain ⟨y, hx, hy⟩ := hb
    rcases (memAt_get _ _ _ _).1 hx with ⟨_, h1⟩ | ⟨k, _, h1, _⟩
    · exact ⟨y, h1, hy⟩
    · cases h1
theorem AW_draw4 {id : Nat} {Q : Exit → List Value → Mem → Prop} (hmix : P.follows .mixedOrders = true) (q : Nat) (hq1 : drawOK ops (q + 1) = true) (hqs : q < ops.size) {oq : Oper} (hoq : ops[q]? = some oq) (hgq : oq.guard = none)
    (v : Nat → Value) (N : Nat → List (Option Blk)) (hd : ∀ i o, i < q → ops[i]? = some o → DOp P ops a₀ m v N i o) {vq : Value} {M' : Mem}
    (hst : ∀ i o, i < q → ops[i]? = some o → B ops q i = false → o.guard = none ∧ evOp P o.op (frB ops a₀ v i) M' = some (v i, M') ∧ N i = [])
    (hevq : evOp P oq.op (frameAt ops v allS a₀ q) (memAt m N allS q) = some (vq, M'))
    (ht : aOps P ops.toList (Q .normal) (ops.toList.drop (q + 1)) (aPut (frameAt ops v allS a₀ q) oq.dst vq) M') : AW P (.region id ops true) Q a₀ m := by
  intro ι₀ m₀ w₀ ι act w hs ha hr
  refine wp_region_any hmix ?_
  have hr' : Rel ι m { w with drawn := w.drawn + 1 } := ⟨hr.at', hr.oth, hr.inj, ⟨hr.glob.known.keep fun _ _ => rfl, hr.glob.own⟩⟩
  have hs' : Step ι₀ m₀ w₀ ι m { w with drawn := w.drawn + 1 } := ⟨hs.os, hs.tape, hs.output, hs.size, hs.grows, hs.at_, hs.block, hs.own⟩
  have hcl : ∀ (t : Nat) (x : Value), a₀[t]? = some x → Cl m.Has x := fun t x hx => by
    obtain ⟨y, _, hy⟩ := ha.tmps.get hx
    exact hy.cl
  have hmc := hr.clBlk
  have hgl : getL (Array.replicate ops.size false) = fun _ => false := by
    funext k
    unfold getL
    rw [Array.getD_eq_getD_getElem?, Array.getElem?_replicate]
    split <;> rfl
  have hfr : ∀ n, frameAt ops v (fun _ => false) a₀ n = a₀ := by
    intro n
    induction n with
    | zero => rfl
    | succ n ih => simp [frameAt, ih]
  refine head_run2 hq1 hqs hoq hgq hcl hmc hd hst hevq ht ops.size _ (by simp) (by rw [hgl, leftN_none]; exact Nat.le_refl _) ι act _ ?_
  rw [hgl]
  refine ⟨fun k o _ h => absurd h (by simp), fun _ _ => rfl, ?_, memAt_none_rel q hr', ?_, fun k _ h => absurd h (by simp), fun k _ h => absurd h (by simp)⟩
  · rw [hfr]
    exact ha.mono (fun c hc => (memAt_has _ _ _).2 (.inl hc)) fun _ _ => rfl
  · refine hs'.trans ⟨rfl, rfl, rfl, Nat.le_refl _, fun b hb => (memAt_has _ _ _).2 (.inl hb), fun _ _ => rfl, fun _ _ _ => rfl, fun b hb => .inr ⟨b, ?_, rfl⟩⟩
    obtain ⟨y, hx, hy⟩ := hb
    rcases (memAt_get _ _ _ _).1 hx with ⟨_, h1⟩ | ⟨k, _, h1, _⟩
    · exact ⟨y, h1, hy⟩
    · cases h1
end
end
end Go.Proofs.YtabffcplbjaklaaGreatDoor.Abs
namespace Go.Proofs.YtabffcplbjaklaaGreatDoor.Abs
open Go
section
variable [Defs]
section
variable {P : Program} {ops : Array Oper} {a₀ : List Value} {m : Mem} {v : Nat → Value} {N : Nat → List (Option Blk)}
def From (P : Program) (ops : Array Oper) (Q : Exit → List Value → Mem → Prop) (b : Nat) (a : List Value) (m : Mem) : Prop :=
  ∀ (ι₀ : Nat → Loc) (m₀ : Mem) (w₀ : World) (fuel : Nat) (listed : Array Bool) (_ : listed.size = ops.size) (_ : leftN (getL listed) ops.size ≤ fuel) (_ : ∀ j, j < ops.size → getL listed j = decide (j < b)) (ι : Nat → Loc) (act : Act) (w : World),
    Step ι₀ m₀ w₀ ι m w → ARel m.Has ι a act → Rel ι m w → wpAny P .any ops (Post ι₀ m₀ w₀ Q) fuel listed act w
end
end
end Go.Proofs.YtabffcplbjaklaaGreatDoor.Abs
namespace Go.Proofs.YtabffcplbjaklaaGreatDoor.Abs
open Go
def Ext (m m' : Mem) : Prop := m.size ≤ m'.size ∧ (∀ b, b < m.size → m'.blks[b]? = m.blks[b]? ∨ (m.Own b ∧ ∃ o, m'.blks[b]? = some (some o) ∧ ownB o = true)) ∧
  ∀ b, m.size ≤ b → b < m'.size → ∃ o, m'.blks[b]? = some (some o) ∧ ownB o = true
theorem Ext.refl (m : Mem) : Ext m m := ⟨Nat.le_refl _, fun _ _ => .inl rfl, fun b h1 h2 => by omega⟩
theorem Ext.trans {m m' m'' : Mem} (h : Ext m m') (k : Ext m' m'') : Ext m m'' := by
  refine ⟨Nat.le_trans h.1 k.1, fun b hb => ?_, fun b h1 h2 => ?_⟩
  · rcases h.2.1 b hb with h1 | ⟨h1, o, h2, h3⟩
    · rcases k.2.1 b (Nat.lt_of_lt_of_le hb h.1) with k1 | ⟨⟨y, k1, ky⟩, k2⟩
      · exact .inl (k1.trans h1)
      · refine .inr ⟨⟨y, ?_, ky⟩, k2⟩
        unfold Mem.get at k1 ⊢
        rw [← h1]; exact k1
    · refine .inr ⟨h1, ?_⟩
      rcases k.2.1 b (Nat.lt_of_lt_of_le hb h.1) with k1 | ⟨_, k2⟩
      · exact ⟨o, k1.trans h2, h3⟩
      · exact k2
  · by_cases h3 : b < m'.size
    · obtain ⟨o, h4, h5⟩ := h.2.2 b h1 h3
      rcases k.2.1 b h3 with k1 | ⟨_, k2⟩
      · exact ⟨o, k1.trans h4, h5⟩
      · exact k2
    · exact k.2.2 b (by omega) h2
theorem Ext.push (m : Mem) (s : Nat) (cs : List Value) : Ext m (m.push (.cells false s cs)) := by
  refine ⟨by simp, fun b hb => .inl ?_, fun b h1 h2 => ?_⟩
  · simp only [Mem.size] at hb
    simp [Mem.push, List.getElem?_append, hb]
  · have e : b = m.size := by simp at h2; omega
    subst e
    exact ⟨some (.cells false s cs), by simp [Mem.push, Mem.size], rfl⟩
theorem Ext.set {m : Mem} {b s : Nat} {cs : List Value} (h : m.get b = some (.cells false s cs)) (o : Option Blk) (ho : ownB o = true) : Ext m (m.set b o) := by
  refine ⟨by simp, fun c hc => ?_, fun c h1 h2 => by simp at h2; omega⟩
  by_cases e : b = c
  · subst e
    refine .inr ⟨.of h, o, ?_, ho⟩
    simp only [Mem.size] at hc
    simp [Mem.set, hc]
  · left
    simp [Mem.set, List.getElem?_set, e]
section
variable {P : Program} {m m' : Mem}
end
def frz : Option (Option Blk) → Option (Option Blk)
  | some (some (.cells _ s cs)) => some (some (.cells true s cs))
  | some (some (.kv _ es c)) => some (some (.kv true es c))
  | some (some (.it _ b s l k)) => some (some (.it true b s l k))
  | some (some (.raw _ C e lo hi)) => some (some (.raw true C e lo hi))
  | x => x
def Mem.freeze (m : Mem) : Mem := ⟨m.blks.map frz⟩
theorem freeze_size (m : Mem) : m.freeze.size = m.size := by simp [Mem.freeze, Mem.size]
theorem freeze_has (m : Mem) (b : Nat) : m.freeze.Has b ↔ m.Has b := by
  unfold Mem.Has Mem.freeze
  simp only [List.getElem?_map]
  cases h : m.blks[b]? with
  | none => simp
  | some x => rcases x with _ | _ | ⟨ro, s, cs⟩ | ⟨ro, es, c⟩ | ⟨r, b, s, l, k⟩ | ⟨r, C, e, lo, hi⟩ <;> simp [frz]
theorem freeze_get {m : Mem} {b : Nat} {ro : Bool} {s : Nat} {cs : List Value} (h : m.freeze.get b = some (.cells ro s cs)) : ro = true ∧ ∃ r, m.get b = some (.cells r s cs) := by
  unfold Mem.get Mem.freeze at h
  simp only [List.getElem?_map] at h
  unfold Mem.get
  cases hx : m.blks[b]? with
  | none => rw [hx] at h; simp at h
  | some x =>
    rw [hx] at h
    rcases x with _ | _ | ⟨r, s', cs'⟩ | ⟨ro', es, c⟩ | ⟨r', b', s', l, k⟩ | ⟨r, C, e, lo, hi⟩ <;> simp [frz] at h
    obtain ⟨rfl, rfl, rfl⟩ := h
    exact ⟨rfl, r, rfl⟩
theorem freeze_told {m : Mem} {b : Nat} {x : Blk} (h : m.freeze.get b = some x) : x.own = false ∧ ∃ y, m.get b = some y ∧ ∀ ι n o base, y.Told ι n o base → x.Told ι n o base := by
  unfold Mem.get Mem.freeze at h
  simp only [List.getElem?_map] at h
  unfold Mem.get
  cases hx : m.blks[b]? with
  | none => rw [hx] at h; simp at h
  | some y =>
    rw [hx] at h
    rcases y with _ | _ | ⟨r, s', cs'⟩ | ⟨ro', es, c⟩ | ⟨r', b', s', l, k⟩ | ⟨r, C, e, lo, hi⟩ <;> simp [frz] at h
    · subst h; exact ⟨rfl, _, rfl, fun _ _ _ _ _ => trivial⟩
    · subst h; exact ⟨rfl, _, rfl, fun _ _ _ _ h => h⟩
    · subst h; exact ⟨rfl, _, rfl, fun _ _ _ _ h => h⟩
    · subst h; exact ⟨rfl, _, rfl, fun _ _ _ _ h => h⟩
theorem freeze_own (m : Mem) (b : Nat) : ¬ m.freeze.Own b := fun ⟨y, h, hy⟩ => by
  rw [(freeze_told h).1] at hy
  cases hy
theorem Rel.freeze {ι : Nat → Loc} {m : Mem} {w : World} (h : Rel ι m w) : Rel ι m.freeze w := by
  refine ⟨fun b ro s cs hb => ?_, fun b x hb => ?_, fun b b' _ hb' => absurd hb' (freeze_own m b'), ⟨h.glob.known, fun b hb => absurd hb (freeze_own m b)⟩⟩
  rotate_left
  · obtain ⟨_, y, hy, ht⟩ := freeze_told hb
    exact ht _ _ _ _ ((h.oth b y hy).mono (fun c hc => (freeze_has m c).2 hc) fun _ _ => rfl)
  obtain ⟨rfl, r, hb⟩ := freeze_get hb
  obtain ⟨C, e, fz, h1, h2, h3, h4, h5, h6⟩ := h.at' b r s cs hb
  refine ⟨C, e, fz, h1, h2, h3, h4, fun i v hi => ?_, fun hc => by cases hc⟩
  obtain ⟨h7, v', h8, h9⟩ := h5 i v hi
  exact ⟨h7, v', h8, h9.mono (fun c hc => (freeze_has m c).2 hc) fun _ _ => rfl⟩
end Go.Proofs.YtabffcplbjaklaaGreatDoor.Abs
namespace Go.Proofs.YtabffcplbjaklaaGreatDoor.Abs
open Go
variable {α : Type}
end Go.Proofs.YtabffcplbjaklaaGreatDoor.Abs
namespace Go.Proofs.YtabffcplbjaklaaGreatDoor.Abs
open Go
inductive Tr (α : Type) where
  | E : Tr α
  | N (l : Tr α) (v : Option α) (r : Tr α) : Tr α
namespace Tr
variable {α : Type}
noncomputable def get (t : Tr α) : Nat → Option α :=
  Tr.rec (motive := fun _ => Nat → Option α) (fun _ => none)
    (fun _ v _ gl gr i => Nat.rec (motive := fun _ => Option α) v (fun j _ => bif Nat.beq (Nat.land j 1) 0 then gl (Nat.div j 2) else gr (Nat.div j 2)) i) t
noncomputable def setF (fuel : Nat) : Tr α → Nat → Option α → Tr α :=
  Nat.rec (motive := fun _ => Tr α → Nat → Option α → Tr α) (fun _ _ _ => E)
    (fun _ ih t i v => Tr.rec (motive := fun _ => Tr α)
      (Nat.rec (motive := fun _ => Tr α) (N E v E) (fun j _ => bif Nat.beq (Nat.land j 1) 0 then N (ih E (Nat.div j 2) v) none E else N E none (ih E (Nat.div j 2) v)) i)
      (fun l x r _ _ => Nat.rec (motive := fun _ => Tr α) (N l v r) (fun j _ => bif Nat.beq (Nat.land j 1) 0 then N (ih l (Nat.div j 2) v) x r else N l x (ih r (Nat.div j 2) v)) i) t) fuel
noncomputable def set (t : Tr α) (i : Nat) (v : Option α) : Tr α := setF (Nat.succ i) t i v
theorem get_E (i : Nat) : (E : Tr α).get i = none := rfl
theorem get_N0 (l r : Tr α) (v : Option α) : (N l v r).get 0 = v := rfl
theorem get_N (l r : Tr α) (v : Option α) (j : Nat) : (N l v r).get (j + 1) = if j % 2 = 0 then l.get (j / 2) else r.get (j / 2) := by
  show (bif Nat.beq (Nat.land j 1) 0 then l.get (Nat.div j 2) else r.get (Nat.div j 2)) = _
  have e : Nat.land j 1 = j % 2 := Nat.and_one_is_mod j
  rw [e]
  by_cases h : j % 2 = 0
  · rw [if_pos h, h]; rfl
  · have h1 : j % 2 = 1 := by omega
    rw [if_neg h, h1]; rfl
theorem setF_E0 (f : Nat) (v : Option α) : setF (f + 1) (E : Tr α) 0 v = N E v E := rfl
theorem bif_even {β : Type} (j : Nat) (x y : β) : (bif Nat.beq (Nat.land j 1) 0 then x else y) = if j % 2 = 0 then x else y := by
  have e : Nat.land j 1 = j % 2 := Nat.and_one_is_mod j
  rw [e]
  by_cases h : j % 2 = 0
  · rw [if_pos h, h]; rfl
  · have h1 : j % 2 = 1 := by omega
    rw [if_neg h, h1]; rfl
theorem setF_E (f j : Nat) (v : Option α) : setF (f + 1) (E : Tr α) (j + 1) v = if j % 2 = 0 then N (setF f E (j / 2) v) none E else N E none (setF f E (j / 2) v) := by
  rw [← bif_even]; rfl
theorem setF_N0 (f : Nat) (l r : Tr α) (x v : Option α) : setF (f + 1) (N l x r) 0 v = N l v r := rfl
theorem setF_N (f j : Nat) (l r : Tr α) (x v : Option α) : setF (f + 1) (N l x r) (j + 1) v = if j % 2 = 0 then N (setF f l (j / 2) v) x r else N l x (setF f r (j / 2) v) := by
  rw [← bif_even]; rfl
theorem get_setF (v : Option α) : ∀ (f : Nat) (t : Tr α) (i j : Nat), i < f → (setF f t i v).get j = if j = i then v else t.get j := by
  intro f
  induction f with
  | zero => intro t i j h; omega
  | succ f ih =>
    intro t i j h
    cases t with
    | E =>
      cases i with
      | zero =>
        rw [setF_E0]
        cases j with
        | zero => rw [get_N0, if_pos rfl]
        | succ j => rw [get_N, if_neg (show ¬ j + 1 = 0 by omega)]; simp [get_E]
      | succ i =>
        rw [setF_E]
        split
        · rename_i hi
          cases j with
          | zero => rw [get_N0, if_neg (by omega), get_E]
          | succ j =>
            rw [get_N]
            split
            · rename_i hj
              rw [ih _ (i / 2) (j / 2) (by omega)]
              by_cases e : j = i
              · subst e; rw [if_pos rfl, if_pos rfl]
              · rw [if_neg (by omega), if_neg (by omega)]; simp [get_E]
            · rw [if_neg (by intro e; have : j = i := by omega
                             subst this; contradiction)]; simp [get_E]
        · rename_i hi
          cases j with
          | zero => rw [get_N0, if_neg (by omega), get_E]
          | succ j =>
            rw [get_N]
            split
            · rw [if_neg (by intro e; have : j = i := by omega
                             subst this; contradiction)]; simp [get_E]
            · rename_i hj
              rw [ih _ (i / 2) (j / 2) (by omega)]
              by_cases e : j = i
              · subst e; rw [if_pos rfl, if_pos rfl]
              · rw [if_neg (by omega), if_neg (by omega)]; simp [get_E]
    | N l x r =>
      cases i with
      | zero =>
        rw [setF_N0]
        cases j with
        | zero => rw [get_N0, if_pos rfl]
        | succ j => rw [get_N, get_N, if_neg (show ¬ j + 1 = 0 by omega)]
      | succ i =>
        rw [setF_N]
        split
        · rename_i hi
          cases j with
          | zero => rw [get_N0, if_neg (by omega), get_N0]
          | succ j =>
            rw [get_N, get_N]
            split
            · rename_i hj
              rw [ih _ (i / 2) (j / 2) (by omega)]
              by_cases e : j = i
              · subst e; rw [if_pos rfl, if_pos rfl]
              · rw [if_neg (by omega), if_neg (by omega)]
            · rw [if_neg (by intro e; have : j = i := by omega
                             subst this; contradiction)]
        · rename_i hi
          cases j with
          | zero => rw [get_N0, if_neg (by omega), get_N0]
          | succ j =>
            rw [get_N, get_N]
            split
            · rw [if_neg (by intro e; have : j = i := by omega
                             subst this; contradiction)]
            · rename_i hj
              rw [ih _ (i / 2) (j / 2) (by omega)]
              by_cases e : j = i
              · subst e; rw [if_pos rfl, if_pos rfl]
              · rw [if_neg (by omega), if_neg (by omega)]
theorem get_set (t : Tr α) (i j : Nat) (v : Option α) : (t.set i v).get j = if j = i then v else t.get j := get_setF v _ t i j (by omega)
end Tr
structure Fr where
  n : Nat
  t : Tr Value
def FR (f : Fr) (a : List Value) : Prop := a.length = f.n ∧ ∀ i v, f.t.get i = some v → a[i]? = some v
noncomputable def Fr.put (f : Fr) (d : Option Nat) (v : Value) : Option Fr := match d with
  | none => some f
  | some i => bif Nat.blt i f.n then some ⟨f.n, f.t.set i (some v)⟩ else none
theorem FR.put {f f' : Fr} {a : List Value} (h : FR f a) {d : Option Nat} {v : Value} (hp : f.put d v = some f') : FR f' (aPut a d v) := by
  unfold Fr.put at hp
  cases d with
  | none => cases hp; exact h
  | some i =>
    simp only at hp
    cases hb : Nat.blt i f.n with
    | false => rw [hb] at hp; cases hp
    | true =>
      rw [hb] at hp
      cases hp
      have hlt : i < f.n := Nat.le_of_ble_eq_true hb
      refine ⟨by simp [aPut, h.1], fun j u hj => ?_⟩
      rw [Tr.get_set] at hj
      simp only [aPut]
      rw [List.getElem?_set]
      by_cases e : j = i
      · subst e
        rw [if_pos rfl] at hj
        rw [if_pos rfl, if_pos (by rw [h.1]; exact hlt)]
        exact hj
      · rw [if_neg e] at hj
        rw [if_neg (Ne.symm e)]
        exact h.2 j u hj
def frzB : Blk → Option Blk
  | .cells _ s cs => some (.cells true s cs)
  | .kv _ es c => some (.kv true es c)
  | .it _ b s l k => some (.it true b s l k)
  | .raw _ C e lo hi => some (.raw true C e lo hi)
theorem frzB_own {x y : Blk} (h : frzB x = some y) : y.own = false := by cases x <;> cases h <;> rfl
theorem frzB_frzB {x y : Blk} (h : frzB x = some y) : frzB y = some y := by cases x <;> cases h <;> rfl
structure FMem where
  n : Nat
  lim : Nat
  t : Tr Blk
namespace FMem
noncomputable def get (m : FMem) (b : Nat) : Option Blk := match m.t.get b with
  | some x => bif Nat.blt b m.lim then frzB x else some x
  | none => none
noncomputable def push (m : FMem) (x : Blk) : FMem := ⟨Nat.succ m.n, m.lim, m.t.set m.n (some x)⟩
noncomputable def put (m : FMem) (b : Nat) (x : Option Blk) : FMem := ⟨m.n, m.lim, m.t.set b x⟩
def freeze (m : FMem) : FMem := ⟨m.n, m.n, m.t⟩
end FMem
def MR (f : FMem) (m : Mem) : Prop := m.size = f.n ∧ f.lim ≤ f.n ∧ ∀ b x, f.get b = some x → m.get b = some x
theorem MR.lt {f : FMem} {m : Mem} (h : MR f m) {b : Nat} {x : Blk} (hb : f.get b = some x) : b < f.n := by
  rw [← h.1]; exact Mem.get_lt (h.2.2 b x hb)
theorem FMem.get_of {m : FMem} {b : Nat} {x : Blk} (h : m.get b = some x) : ∃ y, m.t.get b = some y ∧ (if b < m.lim then frzB y else some y) = some x := by
  unfold FMem.get at h
  split at h
  · rename_i y hb
    refine ⟨y, hb, ?_⟩
    cases hl : Nat.blt b m.lim with
    | true =>
      have : b < m.lim := Nat.le_of_ble_eq_true hl
      rw [hl] at h
      rw [if_pos this]
      exact h
    | false =>
      have : ¬ b < m.lim := fun hlt => by
        have : Nat.blt b m.lim = true := Nat.ble_eq_true_of_le hlt
        rw [hl] at this; cases this
      rw [hl] at h
      rw [if_neg this]
      exact h
  · cases h
theorem FMem.get_to {m : FMem} {b : Nat} {y : Blk} (h : m.t.get b = some y) : m.get b = if b < m.lim then frzB y else some y := by
  unfold FMem.get
  rw [h]
  by_cases hl : b < m.lim
  · have : Nat.blt b m.lim = true := Nat.ble_eq_true_of_le hl
    simp [this, hl]
  · have : Nat.blt b m.lim = false := by
      cases hb : Nat.blt b m.lim with
      | false => rfl
      | true => exact absurd (Nat.le_of_ble_eq_true hb) hl
    simp [this, hl]
theorem MR.push {f : FMem} {m : Mem} (h : MR f m) (x : Blk) : MR (f.push x) (m.push x) := by
  refine ⟨by simp [FMem.push, h.1], by simp only [FMem.push]; have := h.2.1; omega, fun b y hb => ?_⟩
  obtain ⟨z, h1, h2⟩ := FMem.get_of hb
  replace h2 : (if b < f.lim then frzB z else some z) = some y := h2
  simp only [FMem.push] at h1
  rw [Tr.get_set] at h1
  by_cases e : b = f.n
  · subst e
    rw [if_pos rfl] at h1
    cases h1
    rw [if_neg (by have := h.2.1; omega)] at h2
    rw [← h2, ← h.1]
    exact Mem.get_push_new m _
  · rw [if_neg e] at h1
    have h3 : f.get b = some y := by rw [FMem.get_to h1]; exact h2
    rw [Mem.get_push_old (by rw [h.1]; exact h.lt h3)]
    exact h.2.2 b y h3
theorem MR.putOwn {f : FMem} {m : Mem} (h : MR f m) {b : Nat} {z : Blk} (hb : f.get b = some z) (hz : z.own = true) (x : Option Blk) : MR (f.put b x) (m.set b x) := by
  have hlim : ¬ b < f.lim := by
    obtain ⟨y, _, h2⟩ := FMem.get_of hb
    intro hl
    rw [if_pos hl] at h2
    rw [frzB_own h2] at hz
    cases hz
  refine ⟨by simp [FMem.put, h.1], h.2.1, fun c y hc => ?_⟩
  obtain ⟨u, h1, h2⟩ := FMem.get_of hc
  replace h2 : (if c < f.lim then frzB u else some u) = some y := h2
  simp only [FMem.put] at h1
  rw [Tr.get_set] at h1
  by_cases e : c = b
  · subst e
    rw [if_pos rfl] at h1
    subst h1
    rw [if_neg hlim] at h2
    rw [← h2, Mem.get_set_same (h.2.2 _ _ hb)]
  · rw [if_neg e] at h1
    rw [Mem.get_set_ne (Ne.symm e)]
    exact h.2.2 c y (by rw [FMem.get_to h1]; exact h2)
theorem MR.put {f : FMem} {m : Mem} (h : MR f m) {b s : Nat} {cs : List Value} (hb : f.get b = some (.cells false s cs)) (x : Option Blk) : MR (f.put b x) (m.set b x) := h.putOwn hb rfl x
theorem freeze_get_frz {m : Mem} {b : Nat} {x y : Blk} (h : m.get b = some x) (hy : frzB x = some y) : m.freeze.get b = some y := by
  rw [get_iff] at h ⊢
  simp only [Mem.freeze, List.getElem?_map, h, Option.map_some]
  cases x <;> cases hy <;> rfl
theorem MR.freeze {f : FMem} {m : Mem} (h : MR f m) : MR f.freeze m.freeze := by
  refine ⟨by rw [freeze_size]; exact h.1, Nat.le_refl _, fun b y hb => ?_⟩
  obtain ⟨z, h1, h2⟩ := FMem.get_of hb
  replace h2 : (if b < f.n then frzB z else some z) = some y := h2
  simp only [FMem.freeze] at h1
  have h3 := FMem.get_to h1
  have hlt : b < f.n := by
    by_cases hl : b < f.lim
    · have := h.2.1; omega
    · rw [if_neg hl] at h3; exact h.lt h3
  rw [if_pos hlt] at h2
  by_cases hl : b < f.lim
  · rw [if_pos hl, h2] at h3; exact freeze_get_frz (h.2.2 _ _ h3) (frzB_frzB h2)
  · rw [if_neg hl] at h3; exact freeze_get_frz (h.2.2 _ _ h3) h2
end Go.Proofs.YtabffcplbjaklaaGreatDoor.Abs
namespace Go.Proofs.YtabffcplbjaklaaGreatDoor.Abs
open Go
theorem wrap_small {n : Nat} (h : n < 9223372036854775808) : IntKind.i64.wrap (Int.ofNat n) = Int.ofNat n := by
  have e : IntKind.i64.bits = 64 := rfl
  have e2 : IntKind.i64.signed = true := rfl
  unfold IntKind.wrap
  simp only [e, e2, Bool.true_and, decide_eq_true_eq]
  have h1 : (Int.ofNat n) % (2 ^ 64 : Int) = Int.ofNat n := by
    have : (2 : Int) ^ 64 = 18446744073709551616 := by decide
    rw [this]
    simp only [Int.ofNat_eq_natCast]; omega
  rw [h1, if_neg]
  have : (2 : Int) ^ (64 - 1) = 9223372036854775808 := by decide
  rw [this]
  simp only [Int.ofNat_eq_natCast]; omega
noncomputable def fNat (op : BinOp) (a b : Nat) : Option Value :=
  match op with
  | .add => bif Nat.blt (Nat.add a b) 9223372036854775808 then some (.int .i64 (.ofNat (Nat.add a b))) else none
  | .sub => bif Nat.ble b a then some (.int .i64 (.ofNat (Nat.sub a b))) else none
  | .mul => bif Nat.blt (Nat.mul a b) 9223372036854775808 then some (.int .i64 (.ofNat (Nat.mul a b))) else none
  | .quo => bif Nat.beq b 0 then none else some (.int .i64 (.ofNat (Nat.div a b)))
  | .rem => bif Nat.beq b 0 then none else some (.int .i64 (.ofNat (Nat.mod a b)))
  | .and => some (.int .i64 (.ofNat (Nat.land a b)))
  | .or => some (.int .i64 (.ofNat (Nat.lor a b)))
  | .xor => some (.int .i64 (.ofNat (Nat.xor a b)))
  | .eql => some (.bool (Nat.beq a b))
  | .neq => some (.bool (Bool.not (Nat.beq a b)))
  | .lss => some (.bool (Nat.blt a b))
  | .leq => some (.bool (Nat.ble a b))
  | .gtr => some (.bool (Nat.blt b a))
  | .geq => some (.bool (Nat.ble b a))
  | .shl => bif Nat.blt b 64 then bif Nat.blt (Nat.mul a (Nat.pow 2 b)) 9223372036854775808 then some (.int .i64 (.ofNat (Nat.mul a (Nat.pow 2 b)))) else none else none
  | .shr => bif Nat.blt b 64 then some (.int .i64 (.ofNat (Nat.div a (Nat.pow 2 b)))) else none
  | _ => none
theorem blt_iff {a b : Nat} : Nat.blt a b = true ↔ a < b := by
  constructor
  · intro h; exact Nat.le_of_ble_eq_true h
  · intro h; exact Nat.ble_eq_true_of_le h
theorem blt_dec (a b : Nat) : Nat.blt a b = decide (a < b) := by
  rw [Bool.eq_iff_iff, blt_iff, decide_eq_true_eq]
theorem ble_dec (a b : Nat) : Nat.ble a b = decide (a ≤ b) := by
  rw [Bool.eq_iff_iff, Nat.ble_eq, decide_eq_true_eq]
theorem bits_and {a b : Nat} (ha : a < 9223372036854775808) (hb : b < 9223372036854775808) (F : (w : Nat) → BitVec w → BitVec w → BitVec w) (G : Nat → Nat → Nat) (hF : ∀ x y : BitVec 64, (F 64 x y).toNat = G x.toNat y.toNat) (hG : G a b < 9223372036854775808) :
    IntKind.i64.wrap (((F IntKind.i64.bits (BitVec.ofInt IntKind.i64.bits (Int.ofNat a)) (BitVec.ofInt IntKind.i64.bits (Int.ofNat b))).toNat : Nat) : Int) = Int.ofNat (G a b) := by
  show IntKind.i64.wrap (((F 64 (BitVec.ofInt 64 (Int.ofNat a)) (BitVec.ofInt 64 (Int.ofNat b))).toNat : Nat) : Int) = Int.ofNat (G a b)
  have h : ∀ n : Nat, n < 9223372036854775808 → (BitVec.ofInt 64 (Int.ofNat n)).toNat = n := fun n hn => by
    simp only [Int.ofNat_eq_natCast, BitVec.toNat_ofInt, Int.toNat_emod]
    omega
  rw [hF, h a ha, h b hb]
  exact wrap_small hG
theorem fNat_spec {op : BinOp} {a b : Nat} {v : Value} (h : fNat op a b = some v) (ha : a < 9223372036854775808) (hb : b < 9223372036854775808) (hop : op ≠ .shl ∧ op ≠ .shr) : aInt op .i64 (Int.ofNat a) (Int.ofNat b) = some v := by
  cases op <;> simp only [fNat] at h <;> first | (cases h; done) | skip
  case shl => exact absurd rfl hop.1
  case shr => exact absurd rfl hop.2
  case add =>
    cases hc : Nat.blt (Nat.add a b) 9223372036854775808 <;> rw [hc] at h <;> first | (cases h; done) | skip
    cases h
    have := wrap_small (blt_iff.1 hc)
    simp only [aInt]
    rw [← this]; rfl
  case sub =>
    cases hc : Nat.ble b a <;> rw [hc] at h <;> first | (cases h; done) | skip
    cases h
    have hle : b ≤ a := Nat.le_of_ble_eq_true hc
    have e : (Int.ofNat a - Int.ofNat b) = Int.ofNat (a - b) := by simp only [Int.ofNat_eq_natCast]; omega
    simp only [aInt]
    rw [e, wrap_small (by omega)]; rfl
  case mul =>
    cases hc : Nat.blt (Nat.mul a b) 9223372036854775808 <;> rw [hc] at h <;> first | (cases h; done) | skip
    cases h
    have := wrap_small (blt_iff.1 hc)
    simp only [aInt]
    rw [← this]; rfl
  case quo =>
    cases hc : Nat.beq b 0 <;> rw [hc] at h <;> first | (cases h; done) | skip
    cases h
    have h0 : b ≠ 0 := fun e => by subst e; cases hc
    simp only [aInt]
    rw [if_neg (by simp only [Int.ofNat_eq_natCast]; omega)]
    have e : (Int.ofNat a).tdiv (Int.ofNat b) = Int.ofNat (a / b) := rfl
    rw [e, wrap_small (Nat.lt_of_le_of_lt (Nat.div_le_self a b) ha)]; rfl
  case rem =>
    cases hc : Nat.beq b 0 <;> rw [hc] at h <;> first | (cases h; done) | skip
    cases h
    have h0 : b ≠ 0 := fun e => by subst e; cases hc
    simp only [aInt]
    rw [if_neg (by simp only [Int.ofNat_eq_natCast]; omega)]
    rfl
  case and =>
    cases h
    simp only [aInt]
    have e := bits_and ha hb (fun _ x y => x &&& y) (fun x y => x &&& y) (fun x y => BitVec.toNat_and x y) (Nat.lt_of_le_of_lt Nat.and_le_left ha)
    exact congrArg (fun x => some (Value.int .i64 x)) e
  case or =>
    cases h
    simp only [aInt]
    have e := bits_and ha hb (fun _ x y => x ||| y) (fun x y => x ||| y) (fun x y => BitVec.toNat_or x y) (Nat.or_lt_two_pow (n := 63) ha hb)
    exact congrArg (fun x => some (Value.int .i64 x)) e
  case xor =>
    cases h
    simp only [aInt]
    have e := bits_and ha hb (fun _ x y => x ^^^ y) (fun x y => x ^^^ y) (fun x y => BitVec.toNat_xor x y) (Nat.xor_lt_two_pow (n := 63) ha hb)
    exact congrArg (fun x => some (Value.int .i64 x)) e
  case eql =>
    cases h
    simp only [aInt]
    congr 2
    rw [Bool.eq_iff_iff]
    simp only [beq_iff_eq, Nat.beq_eq, Int.ofNat_eq_natCast]
    omega
  case neq =>
    cases h
    simp only [aInt]
    congr 2
    have e : (Int.ofNat a == Int.ofNat b) = Nat.beq a b := by
      rw [Bool.eq_iff_iff]
      simp only [beq_iff_eq, Nat.beq_eq, Int.ofNat_eq_natCast]
      omega
    rw [bne, e]
  all_goals
    cases h
    simp only [aInt, blt_dec, ble_dec]
    congr 2
    rw [Bool.eq_iff_iff]
    simp
noncomputable def fBin (P : Program) (op : BinOp) (t : TypeId) (cx : Bool) (x y : Value) : Option Value :=
  match x, y with
  | .int .i64 (.ofNat a), .int .i64 (.ofNat b) => bif Nat.blt a 9223372036854775808 then bif Nat.blt b 9223372036854775808 then match fNat op a b with
      | some v => some v
      | none => aBin P op t cx (.int .i64 (.ofNat a)) (.int .i64 (.ofNat b))
    else aBin P op t cx (.int .i64 (.ofNat a)) (.int .i64 (.ofNat b))
    else aBin P op t cx (.int .i64 (.ofNat a)) (.int .i64 (.ofNat b))
  | x, y => aBin P op t cx x y
theorem fBin_eq {P : Program} {op : BinOp} {t : TypeId} {cx : Bool} {x y v : Value} (h : fBin P op t cx x y = some v) : aBin P op t cx x y = some v := by
  unfold fBin at h
  split at h
  · rename_i a b
    cases ha : Nat.blt a 9223372036854775808 <;> rw [ha] at h <;> first | exact h | skip
    cases hb : Nat.blt b 9223372036854775808 <;> rw [hb] at h <;> first | exact h | skip
    simp only [cond_true] at h
    split at h
    · rename_i u hu
      cases h
      have ha := blt_iff.1 ha
      have hb := blt_iff.1 hb
      by_cases hop : op ≠ .shl ∧ op ≠ .shr
      · have := fNat_spec hu ha hb hop
        cases op <;> simp only [aBin, if_true] <;> first | exact this | (exact absurd rfl hop.1) | (exact absurd rfl hop.2)
      · have e : op = .shl ∨ op = .shr := by cases op <;> simp_all
        rcases e with rfl | rfl
        · simp only [fNat] at hu
          cases hc : Nat.blt b 64 <;> rw [hc] at hu <;> first | (cases hu; done) | skip
          simp only [cond_true] at hu
          cases hd : Nat.blt (Nat.mul a (Nat.pow 2 b)) 9223372036854775808 <;> rw [hd] at hu <;> first | (cases hu; done) | skip
          cases hu
          have hc := blt_iff.1 hc
          have hd := blt_iff.1 hd
          simp only [aBin]
          rw [if_pos (by simp only [Int.ofNat_eq_natCast]; omega)]
          have e1 : min (Int.ofNat b).toNat IntKind.i64.bits = b := by
            have : IntKind.i64.bits = 64 := rfl
            rw [this]
            simp only [Int.ofNat_eq_natCast, Int.toNat_natCast]; omega
          rw [e1]
          have e2 : Int.ofNat a * 2 ^ b = Int.ofNat (Nat.mul a (Nat.pow 2 b)) := by
            simp only [Int.ofNat_eq_natCast, Nat.mul_eq, Nat.pow_eq, Int.natCast_mul, Int.natCast_pow]; rfl
          rw [e2, wrap_small hd]
        · simp only [fNat] at hu
          cases hc : Nat.blt b 64 <;> rw [hc] at hu <;> first | (cases hu; done) | skip
          cases hu
          have hc := blt_iff.1 hc
          simp only [aBin]
          rw [if_pos (by simp only [Int.ofNat_eq_natCast]; omega)]
          have e1 : min (Int.ofNat b).toNat IntKind.i64.bits = b := by
            have : IntKind.i64.bits = 64 := rfl
            rw [this]
            simp only [Int.ofNat_eq_natCast, Int.toNat_natCast]; omega
          rw [e1]
          have e2 : (2 : Int) ^ b = Int.ofNat (2 ^ b) := by simp only [Int.ofNat_eq_natCast, Int.natCast_pow]; rfl
          rw [e2]
          have e3 : (Int.ofNat a).fdiv (Int.ofNat (2 ^ b)) = Int.ofNat (a / 2 ^ b) := (Int.ofNat_fdiv a (2 ^ b)).symm
          rw [e3]; rfl
    · exact h
  · exact h
end Go.Proofs.YtabffcplbjaklaaGreatDoor.Abs
namespace Go.Proofs.YtabffcplbjaklaaGreatDoor.Abs
open Go
section
variable (P : Program) (get : Nat → Option Blk)
def gLoad (t : TypeId) (p : Value) : Option Value :=
  match p with
  | .pointer (some ⟨b, o, none⟩) => match get b with
    | some (.cells _ _ cs) => match P.underlying t with
      | none => none
      | some d => if d.isRow then match P.info? t with
          | some i => if o + i.size ≤ cs.length then some (.agg ((cs.drop o).take i.size).toArray) else none
          | none => none
        else cs[o]?
    | _ => none
  | _ => none
def gToString (src dst : TypeId) (x : Value) : Option Value :=
  match P.underlying src with
  | some (.slice e) => match P.underlying dst with
    | some .string => match P.underlying e with
      | some (.int .u8) => match x with
        | .slice none 0 0 => some (.string ⟨#[]⟩)
        | .slice (some ⟨b, o, none⟩) n _ => match get b with
          | some (.cells _ _ cs) => if o + n ≤ cs.length then match cellBytes ((cs.drop o).take n) with
              | some l => some (.string ⟨⟨l⟩⟩)
              | none => none
            else none
          | _ => none
        | _ => none
      | _ => none
    | _ => none
  | _ => none
def gSlice (t : TypeId) (x : Value) (lo hi : Option Value) : Option Value :=
  match P.underlying t with
  | some .string => match x with
    | .string s => match aBound (bsize s) (bsize s) lo hi with
      | some (l, h) => some (.string (bsub s l h))
      | none => none
    | _ => none
  | some (.slice e) => match P.info? e with
    | none => none
    | some i => match x with
      | .slice none 0 0 => match aBound 0 0 lo hi with
        | some _ => some (.slice none 0 0)
        | none => none
      | .slice (some ⟨b, o, none⟩) len cap => match aBound len cap lo hi with
        | some (l, h) => match get b with
          | some (.cells _ s _) => if s = i.size then some (.slice (some ⟨b, o + l * i.size, none⟩) (h - l) (cap - l)) else none
          | _ => none
        | none => none
      | _ => none
  | some (.array n e) => match P.info? e with
    | none => none
    | some i => match x with
      | .pointer (some ⟨b, o, none⟩) => match aBound n n lo hi with
        | some (l, h) => if l < n then some (.slice (some ⟨b, o + l * i.size, none⟩) (h - l) (n - l)) else none
        | none => none
      | _ => none
  | _ => none
end
section
variable {P : Program} {get get' : Nat → Option Blk} (hg : ∀ b x, get b = some x → get' b = some x)
include hg
theorem gLoad_mono {t : TypeId} {p v : Value} (h : gLoad P get t p = some v) : gLoad P get' t p = some v := by
  unfold gLoad at h ⊢
  split at h <;> first | (cases h; done) | skip
  rename_i b o
  cases hb : get b with
  | none => rw [hb] at h; cases h
  | some x => rw [hb] at h; simp only [hg b x hb]; exact h
theorem gToString_mono {s d : TypeId} {p v : Value} (h : gToString P get s d p = some v) : gToString P get' s d p = some v := by
  unfold gToString at h ⊢
  split at h <;> first | (cases h; done) | skip
  split at h <;> first | (cases h; done) | skip
  split at h <;> first | (cases h; done) | skip
  split at h <;> first | (cases h; done) | skip
  · exact h
  · rename_i b o n _
    cases hb : get b with
    | none => rw [hb] at h; cases h
    | some x => rw [hb] at h; simp only [hg b x hb]; exact h
theorem gSlice_mono {t : TypeId} {x v : Value} {lo hi : Option Value} (h : gSlice P get t x lo hi = some v) : gSlice P get' t x lo hi = some v := by
  unfold gSlice at h ⊢
  split at h <;> first | (cases h; done) | skip
  · exact h
  · split at h <;> first | (cases h; done) | skip
    split at h <;> first | (cases h; done) | skip
    · exact h
    · split at h <;> first | (cases h; done) | skip
      rename_i b o len cap _ l h' _
      cases hb : get b with
      | none => rw [hb] at h; cases h
      | some x => rw [hb] at h; simp only [hg b x hb]; exact h
  · exact h
end
section
variable (P : Program) (m : FMem)
end
section
variable {P : Program} {f f' : FMem} {m : Mem} (h : MR f m)
include h
end
end Go.Proofs.YtabffcplbjaklaaGreatDoor.Abs
namespace Go.Proofs.YtabffcplbjaklaaGreatDoor.Abs
open Go
def getV (vs : List Value) (k : Nat) : Value := (vs[k]?).getD undef
def getN (Ns : List (List (Option Blk))) (k : Nat) : List (Option Blk) := (Ns[k]?).getD []
theorem OpSim.congr [Defs] {P : Program} {o : Oper} {a b : List Value} {m : Mem} {R : Value → Mem → Prop} (h : OpSim P o a m R) (he : ∀ x ∈ o.op.operands, aEval b x = aEval a x) : OpSim P o b m R :=
  fun c ι act act2 w K Q hbc => h c ι act act2 w K Q fun x hx => by rw [← he x hx]; exact hbc x hx
theorem frameAt_congr {ops : Array Oper} {v u : Nat → Value} {S : Nat → Bool} {a : List Value} : ∀ n, (∀ k, k < n → v k = u k) → frameAt ops v S a n = frameAt ops u S a n
  | 0, _ => rfl
  | n + 1, h => by simp only [frameAt, frameAt_congr n fun k hk => h k (by omega), h n (by omega)]
theorem newsAt_congrN {N N' : Nat → List (Option Blk)} {S : Nat → Bool} : ∀ n, (∀ k, k < n → N k = N' k) → newsAt N S n = newsAt N' S n
  | 0, _ => rfl
  | n + 1, h => by simp only [newsAt, newsAt_congrN n fun k hk => h k (by omega), h n (by omega)]
theorem DOp_congr [Defs] {P : Program} {ops : Array Oper} {a : List Value} {m : Mem} {v u : Nat → Value} {N N' : Nat → List (Option Blk)} {k : Nat} {o : Oper} (hv : ∀ j, j ≤ k → v j = u j) (hN : ∀ j, j ≤ k → N j = N' j) (h : DOp P ops a m v N k o) : DOp P ops a m u N' k o := by
  unfold DOp memOf memB frB memAt at *
  rw [← frameAt_congr k fun j hj => hv j (by omega), ← newsAt_congrN k fun j hj => hN j (by omega), ← hv k (Nat.le_refl _), ← hN k (Nat.le_refl _)]
  exact h
theorem getV_append {vs : List Value} {v : Value} {j : Nat} : getV (vs ++ [v]) j = if j < vs.length then getV vs j else if j = vs.length then v else undef := by
  unfold getV
  rw [List.getElem?_append]
  split
  · rfl
  · rename_i h
    by_cases e : j = vs.length
    · subst e; simp
    · rw [if_neg e, List.getElem?_eq_none (by simp; omega)]; rfl
theorem getN_append {Ns : List (List (Option Blk))} {N : List (Option Blk)} {j : Nat} : getN (Ns ++ [N]) j = if j < Ns.length then getN Ns j else if j = Ns.length then N else [] := by
  unfold getN
  rw [List.getElem?_append]
  split
  · rfl
  · rename_i h
    by_cases e : j = Ns.length
    · subst e; simp
    · rw [if_neg e, List.getElem?_eq_none (by simp; omega)]; rfl
theorem slot_all {ops : Array Oper} {a : List Value} {v : Nat → Value} {q i : Nat} {o : Oper} (hap : apartAll ops (befM ops.toList) q = true) (hiq : i < q) (hqs : q ≤ ops.size) (hi : ops[i]? = some o) {t : Nat} (ht : t ∈ o.looksAt ops) :
    (frB ops a v i)[t]? = (frameAt ops v allS a i)[t]? := by
  refine frameAt_get t i fun k hk hdst => ?_
  cases hb : B ops i k
  · have hok : ops[k]? = some ops[k] := Array.getElem?_eq_getElem (by omega)
    rw [hok] at hdst
    exact absurd ht ((Oper.apart_spec (apartAll_spec hap hk hiq hok hi hb)).1 t hdst)
  · rfl
theorem memAt_succ (m : Mem) (N : Nat → List (Option Blk)) (k : Nat) : memAt m N allS (k + 1) = (memAt m N allS k).app (N k) := by
  unfold memAt Mem.app
  simp [newsAt, allS]
end Go.Proofs.YtabffcplbjaklaaGreatDoor.Abs
namespace Go.Proofs.YtabffcplbjaklaaGreatDoor.Abs
open Go
abbrev Look := Operand → Option Value
noncomputable def fArgs (g : Look) (l : List Operand) : Option (List Value) :=
  List.rec (motive := fun _ => Option (List Value)) (some []) (fun x _ ih => match g x with
    | some v => match ih with
      | some r => some (v :: r)
      | none => none
    | none => none) l
noncomputable def fParts (g : Look) (l : List (Nat × Operand)) : Option (List (Nat × Value)) :=
  List.rec (motive := fun _ => Option (List (Nat × Value))) (some []) (fun p _ ih => match g p.2 with
    | some v => match ih with
      | some r => some ((p.1, v) :: r)
      | none => none
    | none => none) l
def fOpt (g : Look) (x : Option Operand) : Option (Option Value) := match x with
  | none => some none
  | some x => match g x with | some v => some (some v) | none => none
def vPick (c x y : Option Value) : Option Value := match c with
  | some (.bool true) => x
  | some (.bool false) => y
  | _ => none
def vBuild (P : Program) (t : TypeId) (l : Option (List (Nat × Value))) : Option Value := match l with
  | some l => aBuild P t l
  | none => none
def vLoad (P : Program) (get : Nat → Option Blk) (t : TypeId) (p : Option Value) : Option Value := match p with
  | some p => gLoad P get t p
  | none => none
def vNil (x : Option Value) : Option Value := match x with
  | some (.pointer (some q)) => some (.pointer (some q))
  | some (.func (.func f) xs ys) => some (.func (.func f) xs ys)
  | _ => none
noncomputable def vBin (P : Program) (op : BinOp) (t : TypeId) (cx : Bool) (x y : Option Value) : Option Value := match x with
  | some u => match y with
    | some v => fBin P op t cx u v
    | none => none
  | none => none
def vUn (op : UnOp) (x : Option Value) : Option Value := match x with
  | some v => aUn op v
  | none => none
noncomputable def vToInt (k : IntKind) (n : Int) : Value := match k, n with
  | .i64, .ofNat n => bif Nat.blt n 9223372036854775808 then .int .i64 (.ofNat n) else .int .i64 (IntKind.i64.wrap (.ofNat n))
  | .u8, .ofNat n => .int .u8 (.ofNat (Nat.mod n 256))
  | k, n => .int k (k.wrap n)
noncomputable def vConv (P : Program) (get : Nat → Option Blk) (s d : TypeId) (x : Option Value) : Option Value := match x with
  | some (.int _ n) => match P.underlying s with
    | some _ => match P.underlying d with
      | some (.int k) => some (vToInt k n)
      | _ => none
    | none => none
  | some (.string q) => match P.underlying d with
    | some .string => match P.underlying s with | some _ => some (.string q) | none => none
    | _ => none
  | some x => gToString P get s d x
  | none => none
def vIface (P : Program) (t : TypeId) (x : Option Value) : Option Value := match x with
  | some v => match P.underlying t with
    | some (.interface _) => none
    | some _ => some (.iface t v)
    | none => none
  | none => none
def vFunc (fn : Fn) (l r : Option (List Value)) : Option Value := match fn with
  | .func f => match l with
    | some l => match r with
      | some r => some (.func (.func f) l.toArray r.toArray)
      | none => none
    | none => none
  | _ => none
def vSlice (P : Program) (get : Nat → Option Blk) (t : TypeId) (x : Option Value) (lo hi : Option (Option Value)) (mx : Option Operand) : Option Value := match mx with
  | none => match x with
    | some x => match lo with
      | some lo => match hi with
        | some hi => gSlice P get t x lo hi
        | none => none
      | none => none
    | none => none
  | some _ => none
def vFieldAddr (P : Program) (t : TypeId) (x : Option Value) (f : Nat) : Option Value := match x with
  | some v => aFieldAddr P t v f
  | none => none
def vField (P : Program) (t : TypeId) (x : Option Value) (f : Nat) : Option Value := match x with
  | some (.agg cs) => match P.underlying t with
    | some (.struct fs) => match fs.toList[f]? with
      | some fd => aPart P fd.type cs.toList fd.offset
      | none => none
    | _ => none
  | _ => none
def vIndexAddr (P : Program) (t : TypeId) (x i : Option Value) : Option Value := match x with
  | some v => match i with
    | some j => aIndexAddr P t v j
    | none => none
  | none => none
def vIndex (P : Program) (t : TypeId) (x i : Option Value) : Option Value := match x with
  | some v => match i with
    | some j => aIndex P t v j
    | none => none
  | none => none
def vExtract (x : Option Value) (i : Nat) : Option Value := match x with
  | some (.tuple cs) => cs.toList[i]?
  | _ => none
def vMin (b : Bool) (xs : List Value) : Option Value := match xs with
  | x :: r => evMin b x r
  | [] => none
def vLen (P : Program) (ts : List TypeId) (xs : List Value) : Option Value := match ts with
  | [t] => match xs with
    | [x] => aLen P t x
    | _ => none
  | _ => none
def vBuiltin (P : Program) (b : Builtin) (ts : List TypeId) (xs : List Value) : Option Value := match b with
  | .len => vLen P ts xs
  | .min => vMin true xs
  | .max => vMin false xs
  | _ => none
def vCall (P : Program) (callee : Callee) (ts : List TypeId) (xs : Option (List Value)) : Option Value := match callee with
  | .builtin b => match xs with
    | some xs => vBuiltin P b ts xs
    | none => none
  | _ => none
noncomputable def fVal (P : Program) (g : Look) (get : Nat → Option Blk) (o : Op) : Option Value :=
  match o with
  | .move x => g x
  | .assign x => g x
  | .pick c x y => vPick (g c) (g x) (g y)
  | .build t ps => vBuild P t (fParts g ps.toList)
  | .load t p => vLoad P get t (g p)
  | .nilCheck x => vNil (g x)
  | .binOp op t x y _ => vBin P op t (isC x || isC y) (g x) (g y)
  | .unOp op _ x => vUn op (g x)
  | .convert s d x => vConv P get s d (g x)
  | .makeInterface t x => vIface P t (g x)
  | .makeFunc fn fs cs => vFunc fn (fArgs g fs.toList) (fArgs g cs.toList)
  | .slice t x lo hi mx => vSlice P get t (g x) (fOpt g lo) (fOpt g hi) mx
  | .fieldAddr t x f => vFieldAddr P t (g x) f
  | .field t x f => vField P t (g x) f
  | .indexAddr t x i => vIndexAddr P t (g x) (g i)
  | .index t x i => vIndex P t (g x) (g i)
  | .extract x i => vExtract (g x) i
  | .call c => vCall P c.callee c.argTypes.toList (fArgs g c.args.toList)
  | _ => none
inductive Class | val | mem | fn
noncomputable def fCallee (g : Look) (o : Op) : Option (FuncId × List Value) := match o with
  | .call c => match c.callee with
    | .value f => match g f with
      | some (.func (.func k) fs cs) => match fArgs g c.args.toList with
        | some xs => some (k, fs.toList ++ xs ++ cs.toList)
        | none => none
      | _ => none
    | _ => none
  | _ => none
section
variable {P : Program} {g : Look} {a : List Value} (hg : ∀ x v, g x = some v → aEval a x = some v)
include hg
theorem fArgs_spec : ∀ (l : List Operand) {r : List Value}, fArgs g l = some r → evArgs a l = some r
  | [], r, h => h
  | x :: l, r, h => by
    have e : fArgs g (x :: l) = match g x with | some v => (match fArgs g l with | some r => some (v :: r) | none => none) | none => none := rfl
    rw [e] at h
    unfold evArgs
    split at h <;> first | (cases h; done) | skip
    rename_i v hv
    split at h <;> first | (cases h; done) | skip
    rename_i r' hr
    cases h
    simp only [hg x v hv, fArgs_spec l hr]
theorem fParts_spec : ∀ (l : List (Nat × Operand)) {r : List (Nat × Value)}, fParts g l = some r → evParts a l = some r
  | [], r, h => h
  | p :: l, r, h => by
    have e : fParts g (p :: l) = match g p.2 with | some v => (match fParts g l with | some r => some ((p.1, v) :: r) | none => none) | none => none := rfl
    rw [e] at h
    obtain ⟨i, x⟩ := p
    unfold evParts
    split at h <;> first | (cases h; done) | skip
    rename_i v hv
    split at h <;> first | (cases h; done) | skip
    rename_i r' hr
    cases h
    simp only [hg x v hv, fParts_spec l hr]
theorem fOpt_spec {x : Option Operand} {r : Option Value} (h : fOpt g x = some r) : evOpt a x = some r := by
  cases x with
  | none => exact h
  | some x =>
    unfold fOpt at h
    unfold evOpt
    simp only at h ⊢
    split at h <;> first | (cases h; done) | skip
    rename_i v hv
    cases h
    simp only [hg x v hv]
theorem fCallee_spec {o : Op} {r : FuncId × List Value} (h : fCallee g o = some r) : evCallee a o = some r := by
  unfold fCallee at h
  split at h <;> first | (cases h; done) | skip
  rename_i c
  obtain ⟨callee, args, ts⟩ := c
  cases callee <;> simp only at h <;> first | (cases h; done) | skip
  rename_i f
  split at h <;> first | (cases h; done) | skip
  rename_i k fs cs hk
  split at h <;> first | (cases h; done) | skip
  rename_i xs hxs
  cases h
  simp only [evCallee, hg f _ hk, fArgs_spec hg _ hxs]
theorem vToInt_eq (k : IntKind) (n : Int) : vToInt k n = .int k (k.wrap n) := by
  unfold vToInt
  split
  · rename_i n
    cases h : Nat.blt n 9223372036854775808 with
    | true => simp only [cond_true, wrap_small (blt_iff.1 h)]
    | false => rfl
  · rename_i n
    have e : IntKind.u8.wrap (Int.ofNat n) = Int.ofNat (Nat.mod n 256) := by
      have e1 : IntKind.u8.signed = false := rfl
      have e2 : IntKind.u8.bits = 8 := rfl
      unfold IntKind.wrap
      simp only [e1, e2, Bool.false_and, Bool.false_eq_true, if_false]
      rfl
    rw [e]
  · rfl
theorem fVal_spec {get : Nat → Option Blk} {m : Mem} (hm : ∀ b x, get b = some x → m.get b = some x) {o : Op} {v : Value} (h : fVal P g get o = some v) : evOp P o a m = some (v, m) := by
  cases o <;> simp only [fVal] at h <;> first | (cases h; done) | skip
  case move x => simp only [evOp, hg x v h, pureV]
  case assign x => simp only [evOp, hg x v h, pureV]
  case pick c x y =>
    unfold vPick at h
    split at h <;> first | (cases h; done) | skip
    · rename_i hc; simp only [evOp, hg c _ hc, hg x v h, pureV]
    · rename_i hc; simp only [evOp, hg c _ hc, hg y v h, pureV]
  case build t ps =>
    unfold vBuild at h
    split at h <;> first | (cases h; done) | skip
    rename_i l hl
    simp only [evOp, fParts_spec hg _ hl, h, pureV]
  case load t p =>
    unfold vLoad at h
    split at h <;> first | (cases h; done) | skip
    rename_i q hq
    have : aLoad P m t q = some v := gLoad_mono hm h
    simp only [evOp, hg p q hq, this, pureV]
  case nilCheck x =>
    unfold vNil at h
    split at h <;> first | (cases h; done) | skip
    all_goals
      rename_i hx
      cases h
      simp only [evOp, hg x _ hx]
  case binOp op t x y ty =>
    unfold vBin at h
    split at h <;> first | (cases h; done) | skip
    rename_i u hu
    split at h <;> first | (cases h; done) | skip
    rename_i w hw
    simp only [evOp, hg x u hu, hg y w hw, fBin_eq h, pureV]
  case unOp op t x =>
    unfold vUn at h
    split at h <;> first | (cases h; done) | skip
    rename_i u hu
    simp only [evOp, hg x u hu, h, pureV]
  case convert s d x =>
    unfold vConv at h
    split at h <;> first | (cases h; done) | skip
    · rename_i k n hx
      split at h <;> first | (cases h; done) | skip
      rename_i hs
      split at h <;> first | (cases h; done) | skip
      rename_i k' hd
      cases h
      simp only [evOp, hg x _ hx, evConvert, hs, hd, vToInt_eq hg]
    · rename_i q hx
      split at h <;> first | (cases h; done) | skip
      rename_i hd
      split at h <;> first | (cases h; done) | skip
      rename_i hs
      cases h
      simp only [evOp, hg x _ hx, evConvert, hd, hs]
    · rename_i u hne hne' hx
      have : aToString P m s d u = some v := gToString_mono hm h
      simp only [evOp, hg x _ hx]
      unfold evConvert
      split
      · exact absurd rfl (hne _ _)
      · exact absurd rfl (hne' _)
      · simp only [this]
  case makeInterface t x =>
    unfold vIface at h
    split at h <;> first | (cases h; done) | skip
    rename_i u hu
    split at h <;> first | (cases h; done) | skip
    rename_i d hne hd
    cases h
    simp only [evOp, hg x u hu, hd]
  case makeFunc fn fs cs =>
    unfold vFunc at h
    split at h <;> first | (cases h; done) | skip
    split at h <;> first | (cases h; done) | skip
    rename_i l hl
    split at h <;> first | (cases h; done) | skip
    rename_i r hr
    cases h
    simp only [evOp, fArgs_spec hg _ hl, fArgs_spec hg _ hr]
  case slice t x lo hi mx =>
    unfold vSlice at h
    split at h <;> first | (cases h; done) | skip
    split at h <;> first | (cases h; done) | skip
    rename_i u hu
    split at h <;> first | (cases h; done) | skip
    rename_i l hl
    split at h <;> first | (cases h; done) | skip
    rename_i r hr
    have : aSlice P m t u l r = some v := gSlice_mono hm h
    simp only [evOp, hg x u hu, fOpt_spec hg hl, fOpt_spec hg hr, this, pureV]
  case fieldAddr t x f =>
    unfold vFieldAddr at h
    split at h <;> first | (cases h; done) | skip
    rename_i u hu
    simp only [evOp, hg x u hu, h, pureV]
  case field t x f =>
    unfold vField at h
    split at h <;> first | (cases h; done) | skip
    rename_i cs hu
    split at h <;> first | (cases h; done) | skip
    rename_i fs hs
    split at h <;> first | (cases h; done) | skip
    rename_i fd hf
    simp only [evOp, hg x _ hu, hs, hf, h, pureV]
  case indexAddr t x i =>
    unfold vIndexAddr at h
    split at h <;> first | (cases h; done) | skip
    rename_i u hu
    split at h <;> first | (cases h; done) | skip
    rename_i j hj
    simp only [evOp, hg x u hu, hg i j hj, h, pureV]
  case index t x i =>
    unfold vIndex at h
    split at h <;> first | (cases h; done) | skip
    rename_i u hu
    split at h <;> first | (cases h; done) | skip
    rename_i j hj
    simp only [evOp, hg x u hu, hg i j hj, h, pureV]
  case extract x i =>
    unfold vExtract at h
    split at h <;> first | (cases h; done) | skip
    rename_i cs hu
    simp only [evOp, hg x _ hu, h, pureV]
  case call c =>
    obtain ⟨callee, args, ts⟩ := c
    unfold vCall at h
    cases callee <;> simp only at h <;> first | (cases h; done) | skip
    rename_i b
    split at h <;> first | (cases h; done) | skip
    rename_i xs hxs
    simp only [evOp, fArgs_spec hg _ hxs]
    unfold vBuiltin at h
    unfold evBuiltin
    split at h <;> first | (cases h; done) | skip
    · unfold vLen at h
      split at h <;> first | (cases h; done) | skip
      rename_i ht
      split at h <;> first | (cases h; done) | skip
      simp only [ht, h]
    · unfold vMin at h
      split at h <;> first | (cases h; done) | skip
      simp only [h]
    · unfold vMin at h
      split at h <;> first | (cases h; done) | skip
      simp only [h]
end
end Go.Proofs.YtabffcplbjaklaaGreatDoor.Abs
namespace Go.Proofs.YtabffcplbjaklaaGreatDoor.Abs
open Go
abbrev Caller := FuncId → List Value → FMem → Option (Value × FMem)
section
variable (P : Program) (call : Caller)
end
def Good (P : Program) (call : Caller) : Prop :=
  ∀ k xs f v f', call k xs f = some (v, f') → ∀ m, MR f m → ∃ m', MR f' m' ∧ Spec P k xs m (fun u m'' => u = v ∧ m'' = m') ∧ Ext m m'
section
variable {P : Program} {call : Caller} (hc : Good P call)
include hc
end
section
variable {P : Program} {call : Caller} (hc : Good P call)
include hc
end
section
variable {P : Program} {call : Caller} (hc : Good P call)
include hc
end
section
variable {P : Program} {call : Caller} (hc : Good P call) (hmix : P.follows .mixedOrders = true)
include hc hmix
end
end Go.Proofs.YtabffcplbjaklaaGreatDoor.Abs
