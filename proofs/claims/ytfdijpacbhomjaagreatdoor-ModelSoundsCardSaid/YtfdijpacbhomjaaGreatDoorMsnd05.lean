/-
  The abstract machine's comparison, arithmetic and conversions: each does what the model's does.
-/
import Derived.Test.YtfdijpacbhomjaaGreatDoorMsnd04
import Derived.ChangeKeysEq
set_option linter.all false
namespace Go.Proofs.YtfdijpacbhomjaaGreatDoor.Abs
open Go
section run
variable {P : Program} {n : Nat → Prop} {ι : Nat → Loc}
set_option maxHeartbeats 2000000 in
theorem aEq_run : ∀ (d : Nat) (t : TypeId) (x y : Value) (b : Bool), aEq P d t x y = some b → ∀ (x' y' : Value), VRel n ι x x' → VRel n ι y y' → ∀ (k : Nat) (w : World), (Op.equalIn (d + k) t x' y').run P w = .ok b w := by
  intro d
  induction d with
  | zero => intro t x y b h; simp [aEq] at h
  | succ d ih =>
    intro t x y b h x' y' hx hy k w
    rw [show d + 1 + k = (d + k) + 1 by omega]
    simp only [aEq] at h
    cases hu : P.underlying t with
    | none => rw [hu] at h; cases h
    | some D =>
      rw [hu] at h
      cases D <;> simp only at h <;> first | (cases h; done) | skip
      case bool =>
        cases x <;> cases y <;> (try simp only at h) <;> first | (cases h; done) | skip
        cases hx; cases hy
        simp only [Option.some.injEq] at h; subst h
        simp [Op.equalIn, run_underlying hu]
      case int kk =>
        cases x <;> cases y <;> (try simp only at h) <;> first | (cases h; done) | skip
        cases hx; cases hy
        split at h <;> simp at h
        rename_i hk; subst hk; subst h
        simp [Op.equalIn, run_underlying hu]
      case string =>
        cases x <;> cases y <;> (try simp only at h) <;> first | (cases h; done) | skip
        cases hx; cases hy
        simp only [Option.some.injEq] at h; subst h
        rw [run_equalIn_string w (d + k) t _ _ hu, beqB_eq]
      case pointer e =>
        cases x <;> cases y <;> (try simp only at h) <;> first | (cases h; done) | skip
        case pointer.pointer a c =>
          cases a with
          | none =>
            have h := Option.some.inj h
            subst h
            cases hx
            cases hy <;> simp [Op.equalIn, run_underlying hu]
          | some a =>
            cases c with
            | none =>
              cases hx; cases hy
              simp only [Option.some.injEq] at h; subst h
              simp [Op.equalIn, run_underlying hu]
            | some c =>
              simp only at h
              cases hi : P.info? e with
              | none => rw [hi] at h; cases h
              | some i =>
                rw [hi] at h
                simp only at h
                split at h <;> first | (cases h; done) | skip
                rename_i hc
                simp only [Option.some.injEq] at h
                subst h
                cases hx; cases hy
                rename_i b1 o1 h1 b2 o2 h2
                obtain ⟨hsz, hb, _, _⟩ := hc
                simp only at hb
                subst hb
                simp [Op.equalIn, run_underlying hu, run_sizeOf' hi, hsz, sameAddr]
                have e : ∀ p q : Addr, (p == q) = decide (p = q) := fun p q => by rw [Bool.eq_iff_iff]; simp
                rw [e]
                simp
                rw [Bool.eq_iff_iff]; simp
      case slice e =>
        cases x <;> cases y <;> (try simp only at h) <;> first | (cases h; done) | skip
        case slice.slice a l c a2 l2 c2 =>
          cases a with
          | none => 
            have h := Option.some.inj h
            subst h
            cases hx
            cases hy <;> simp [Op.equalIn, run_underlying hu]
          | some a =>
            cases a2 with
            | some _ => cases h
            | none =>
              cases hy
              simp only [Option.some.injEq] at h; subst h
              cases hx <;> simp [Op.equalIn, run_underlying hu]
      case func ps rs vr =>
        cases x <;> cases y <;> (try simp only at h) <;> first | (cases h; done) | skip
        all_goals
          simp only [Option.some.injEq] at h; subst h
          cases hx <;> cases hy <;> simp [Op.equalIn, run_underlying hu]
      case interface ms =>
        cases x <;> cases y <;> (try simp only at h) <;> first | (cases h; done) | skip
        all_goals
          simp only [Option.some.injEq] at h; subst h
          cases hx <;> cases hy <;> simp [Op.equalIn, run_underlying hu]
      case struct fs =>
        cases x <;> cases y <;> (try simp only at h) <;> first | (cases h; done) | skip
        case agg.agg xs ys =>
          obtain ⟨us, rfl, hxs⟩ := hx.agg_inv
          obtain ⟨vs, rfl, hys⟩ := hy.agg_inv
          have hf : P.fieldsOf t = fs := by simp [Program.fieldsOf, hu]
          split at h
          · cases h
          rename_i hst
          rw [run_equalIn_agg w (d + k) t us vs (by rw [hf]; exact hu) (by simpa using hst), hf]
          generalize fs.toList = l at h
          clear hf hu
          induction l generalizing b with
          | nil => simp at h; subst h; simp [Op.eqFields]
          | cons f l ihl =>
            simp only [List.foldr_cons] at h
            simp only [Op.eqFields]
            split
            · rename_i hnm
              rw [if_pos hnm] at h
              cases h1 : aPart P f.type xs.toList f.offset with
              | none => rw [h1] at h; cases h
              | some p =>
                cases h2 : aPart P f.type ys.toList f.offset with
                | none => rw [h1, h2] at h; cases h
                | some q =>
                  rw [h1, h2] at h
                  simp only at h
                  obtain ⟨p', hp1, hp2⟩ := part_rel hxs h1
                  obtain ⟨q', hq1, hq2⟩ := part_rel hys h2
                  cases he : aEq P d f.type p q with
                  | none => rw [he] at h; cases h
                  | some r =>
                    rw [he] at h
                    have hr := ih f.type p q r he p' q' hp2 hq2 k w
                    cases r
                    · simp only [Option.some.injEq] at h
                      subst h
                      simp [part_run hp1, part_run hq1, hr]
                    · simp only at h
                      have := ihl b h
                      simp [part_run hp1, part_run hq1, hr, this]
            · rename_i hnm
              rw [if_neg hnm] at h
              exact ihl b h
      case array len e =>
        cases x <;> cases y <;> (try simp only at h) <;> first | (cases h; done) | skip
        case agg.agg xs ys =>
          obtain ⟨us, rfl, hxs⟩ := hx.agg_inv
          obtain ⟨vs, rfl, hys⟩ := hy.agg_inv
          cases hi : P.info? e with
          | none => rw [hi] at h; cases h
          | some inf =>
            rw [hi] at h
            simp only at h
            rw [run_equalIn_array w (d + k) us vs hu hi]
            generalize List.range len = l at h
            clear hu hi
            induction l generalizing b with
            | nil => simp at h; subst h; simp [Op.eqItems]
            | cons j l ihl =>
              simp only [List.foldr_cons] at h
              simp only [Op.eqItems]
              cases h1 : aPart P e xs.toList (j * P.cellsOf e) with
              | none => rw [h1] at h; cases h
              | some p =>
                cases h2 : aPart P e ys.toList (j * P.cellsOf e) with
                | none => rw [h1, h2] at h; cases h
                | some q =>
                  rw [h1, h2] at h
                  simp only at h
                  obtain ⟨p', hp1, hp2⟩ := part_rel hxs h1
                  obtain ⟨q', hq1, hq2⟩ := part_rel hys h2
                  cases he : aEq P d e p q with
                  | none => rw [he] at h; cases h
                  | some r =>
                    rw [he] at h
                    have hr := ih e p q r he p' q' hp2 hq2 k w
                    cases r
                    · simp only [Option.some.injEq] at h
                      subst h
                      simp only [Sem.run_bind, part_run hp1, part_run hq1, hr, Result.andThen_ok, Bool.not_false, if_true, Sem.run_pure]
                    · simp only at h
                      have := ihl b h
                      simp only [Sem.run_bind, part_run hp1, part_run hq1, hr, Result.andThen_ok, Bool.not_true, Bool.false_eq_true, if_false, this]
theorem aEq_junk1 {P : Program} : ∀ (d : Nat) (t : TypeId) (y : Value), aEq P d t (.chan none) y = none
  | 0, _, _ => by simp [aEq]
  | d + 1, t, y => by
    simp only [aEq]
    cases P.underlying t with
    | none => rfl
    | some D => cases D <;> first | rfl | (cases y <;> rfl)
theorem aEq_junk2 {P : Program} : ∀ (d : Nat) (t : TypeId) (x : Value), aEq P d t x (.chan none) = none
  | 0, _, _ => by simp [aEq]
  | d + 1, t, x => by
    simp only [aEq]
    cases P.underlying t with
    | none => rfl
    | some D => cases D <;> first | rfl | (cases x <;> rfl)
theorem eqGuard_run {op : BinOp} {t : TypeId} {ox oy : Operand} {x y : Value} (h : eqBad P t (isC ox || isC oy) x y = false) (w : World) : (eqGuard op t ox oy x y).run P w = .ok () w := by
  cases x <;> cases y <;> first
    | (cases op <;> simp [eqGuard]; done)
    | skip
  case nilIface.nilIface =>
    cases op <;> first
      | rfl
      | (cases ox <;> cases oy <;> first | rfl | (simp [eqBad, isC] at h))
  case agg.agg xs ys => exact run_eqGuard_agg w op t ox oy xs ys h
theorem aBin_run {op : BinOp} {t : TypeId} {ox oy : Operand} {x y v : Value} (h : aBin P op t (isC ox || isC oy) x y = some v) {x' y' : Value} (hx : VRel n ι x x') (hy : VRel n ι y y') :
    ∃ v', (∀ w, ((do eqGuard op t ox oy x' y'; binOp op t x' y') : Sem Value).run P w = .ok v' w) ∧ VRel n ι v v' := by
  unfold aBin at h
  split at h
  · -- integers
    rename_i k a k' b
    cases hx; cases hy
    refine ⟨v, fun w => ?_, ?_⟩
    · rw [Sem.run_bind, eqGuard_run rfl, Result.andThen_ok]
      split at h
      · split at h <;> simp at h
        subst h
        rename_i hb
        have : ¬ b < 0 := by omega
        simp [binOp, Op.shift, this]
      · split at h <;> simp at h
        subst h
        rename_i hb
        have : ¬ b < 0 := by omega
        simp [binOp, Op.shift, this]
      · split at h <;> first | (cases h; done) | skip
        rename_i hk
        subst hk
        exact aInt_run h t w
    · have hi : ∀ {op : BinOp} {k : IntKind} {a b : Int}, aInt op k a b = some v → VRel n ι v v := by
        intro op k a b h
        cases op <;> simp only [aInt] at h <;> first | (cases h; done) | skip
        case quo => split at h <;> simp at h; subst h; exact .int _ _
        case rem => split at h <;> simp at h; subst h; exact .int _ _
        all_goals (simp only [Option.some.injEq] at h; subst h; constructor)
      split at h
      · split at h <;> simp at h
        subst h; exact .int _ _
      · split at h <;> simp at h
        subst h; exact .int _ _
      · split at h <;> first | (cases h; done) | exact hi h
  · rename_i a b
    cases hx; cases hy
    refine ⟨v, fun w => ?_, ?_⟩
    · rw [Sem.run_bind, eqGuard_run rfl, Result.andThen_ok]
      exact aStr_run h t w
    · cases op <;> simp only [aStr] at h <;> first | (cases h; done) | skip
      case add => split at h <;> simp at h; subst h; exact .string _
      all_goals (simp only [Option.some.injEq] at h; subst h; exact .bool _)
  · cases h
  · cases h
  · rename_i hni hns hnf hnc
    unfold aCompare at h
    by_cases hg : eqBad P t (isC ox || isC oy) x y = true
    · rw [if_pos hg] at h; cases h
    rw [if_neg hg] at h
    have hj1 : x ≠ .chan none := by
      rintro rfl
      cases op <;> simp [aEq_junk1] at h
    have hj2 : y ≠ .chan none := by
      rintro rfl
      cases op <;> simp [aEq_junk2] at h
    have hg' : eqBad P t (isC ox || isC oy) x' y' = false := by
      rw [← Bool.not_eq_true]
      intro hh
      apply hg
      cases hx <;> cases hy <;> first | exact hh | exact absurd rfl hj1 | exact absurd rfl hj2
    cases op <;> simp only at h <;> first | (cases h; done) | skip
    all_goals
      simp only [Option.map_eq_some_iff] at h
      obtain ⟨b, hb, rfl⟩ := h
      refine ⟨_, fun w => ?_, .bool _⟩
      rw [Sem.run_bind, eqGuard_run hg', Result.andThen_ok]
      have := aEq_run (n := n) (ι := ι) 8 t x y b hb x' y' hx hy 9992 w
      have e : (Op.equal t x' y').run P w = .ok b w := this
      cases hx <;> cases hy <;> first
        | (exact absurd rfl hj1)
        | (exact absurd rfl hj2)
        | (exfalso; exact hni _ _ rfl)
        | (exfalso; exact hns _ _ _ rfl)
        | (exfalso; exact hnf _ _ _ _ rfl rfl)
        | (exfalso; exact hnc _ _ rfl rfl)
        | (simp only [binOp, Sem.run_bind, e, Result.andThen_ok, Sem.run_pure]; done)
end run
end Go.Proofs.YtfdijpacbhomjaaGreatDoor.Abs
