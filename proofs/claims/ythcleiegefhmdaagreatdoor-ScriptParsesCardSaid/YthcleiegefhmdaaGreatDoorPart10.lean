/-
  The plain law: what was parsed is printed as a text that is parsed as it was.
  The walks of the document's Same, of SameSteps and same, where the two are the same.
  The walks of the document's two Splits.
  The walks of the document's Split and May of paths.
  The walk of the document's Under.
  The walk of the document's Check of files.
  The walk of the document's digit.
  The walks of the document's bytes and side.
  The walk of the document's number.
  The walk of the document's first line.
  The walk of the document's pack.
-/
import Derived.Test.YthcleiegefhmdaaGreatDoorPart09
import Derived.Test.YthcleiegefhmdaaGreatDoorPart08
set_option linter.unusedSimpArgs false
set_option linter.unusedVariables false
set_option linter.unusedSectionVars false
set_option linter.unnecessarySimpa false
set_option linter.defProp false
namespace Go.Proofs.YthcleiegefhmdaaGreatDoor
open Go.RowKit Abs
theorem join_cons2 (a b : List UInt8) (r : List (List UInt8)) (sep : List UInt8) : Lib.join (a :: b :: r) sep = a ++ sep ++ Lib.join (b :: r) sep := by
  simp [Lib.join, List.intercalate, List.intersperse, List.append_assoc]
theorem join_one (a : List UInt8) (sep : List UInt8) : Lib.join [a] sep = a := Lib.join_one a sep
theorem join_pieces (c : UInt8) : ∀ (l cur : List UInt8), Lib.join (pieces c l cur) [c] = cur ++ l
  | [], cur => by rw [pieces, join_one, List.append_nil]
  | b :: r, cur => by
    rw [pieces]
    split
    · rename_i h
      subst h
      obtain ⟨x, q, hq⟩ : ∃ x q, pieces b r [] = x :: q := by
        cases h : pieces b r [] with
        | nil => have := pieces_len b r []; rw [h] at this; simp at this
        | cons x q => exact ⟨x, q, rfl⟩
      have := join_pieces b r []
      rw [hq] at this ⊢
      rw [join_cons2, this]; simp
    · rw [join_pieces c r]; simp
theorem pieces_join (c : UInt8) : ∀ (ws : List (List UInt8)), ws ≠ [] → (∀ w ∈ ws, c ∉ w) → pieces c (Lib.join ws [c]) [] = ws
  | [], h, _ => absurd rfl h
  | [w], _, h => by rw [join_one, pieces_not c w [] (h w (by simp))]; rfl
  | w :: v :: r, _, h => by
    rw [join_cons2, List.append_assoc]
    have := pieces_at c w (Lib.join (v :: r) [c]) [] (h w (by simp))
    rw [show [c] ++ Lib.join (v :: r) [c] = c :: Lib.join (v :: r) [c] from rfl, this, pieces_join c (v :: r) (by simp) (fun x hx => h x (by simp [hx]))]
    rfl
theorem pieces_free (c : UInt8) : ∀ (l cur : List UInt8), c ∉ cur → ∀ w ∈ pieces c l cur, c ∉ w
  | [], cur, h, w, hw => by simp [pieces] at hw; subst hw; exact h
  | b :: r, cur, h, w, hw => by
    rw [pieces] at hw
    split at hw
    · rcases List.mem_cons.1 hw with rfl | hw
      · exact h
      · exact pieces_free c r [] (by simp) w hw
    · rename_i hb
      exact pieces_free c r _ (by simp [h, Ne.symm hb]) w hw
theorem dig_back : ∀ n : Fin 256, 0 ≤ digI n.val → digit (digI n.val).toNat = UInt8.ofNat n.val := by decide +kernel
theorem digit_back (b : UInt8) (h : 0 ≤ digN b) : digit (digN b).toNat = b := by
  have := dig_back ⟨b.toNat, b.toNat_lt⟩ h
  simpa [digN] using this
theorem hex_back : ∀ (l q : List UInt8), unhexL l = some q → hexL q = l
  | [], q, h => by simp [unhexL] at h; subst h; rfl
  | [_], q, h => by cases h
  | a :: b :: r, q, h => by
    rw [unhexL] at h
    split at h
    · cases h
    · rename_i hd
      split at h
      · rename_i q' hq
        cases h
        have ha := digN_lt a
        have hb := digN_lt b
        have h1 : (UInt8.ofNat (16 * digN a + digN b).toNat).toNat = (16 * digN a + digN b).toNat := by
          rw [UInt8.toNat_ofNat']; omega
        have e1 : (16 * digN a + digN b).toNat / 16 = (digN a).toNat := by omega
        have e2 : (16 * digN a + digN b).toNat % 16 = (digN b).toNat := by omega
        have := hex_back r q' hq
        unfold hexL at this ⊢
        rw [List.flatMap_cons, this, h1, e1, e2, digit_back a (by omega), digit_back b (by omega)]
        rfl
      · cases h
theorem unhexV_back (l : List UInt8) (h : (unhexV l).2 = true) : hexV (unhexV l).1 = l := by
  unfold unhexV at h ⊢
  split at h
  · rename_i h1; rw [if_pos h1, h1]; rfl
  · rename_i h1
    rw [if_neg h1]
    split at h
    · cases h
    · rename_i h2
      rw [if_neg h2]
      split at h
      · rename_i q hq
        simp only
        unfold hexV
        have := hex_back l q hq
        rw [if_neg (fun e => by subst e; exact h2 this.symm), this]
      · cases h
theorem numQ_back {l : List UInt8} {a b v : Int} (h : numQ l a b = some v) (h0 : -9223372036854775808 ≤ a) (h1 : b ≤ 9223372036854775807) : l = Lib.itoa v ∧ a ≤ v ∧ v ≤ b := by
  unfold numQ at h
  split at h
  · rename_i h2
    cases h
    refine (numP_iff l a b _ h0 h1).1 ?_
    rw [← h2]
  · cases h
theorem fileOf_back {w : List UInt8} {f : FileL} (h : fileOf w = some f) : fileW f = w := by
  unfold fileOf at h
  split at h
  · rename_i h1
    cases h
    unfold fileW
    simp only
    rw [unhexV_back _ h1.2.1, unhexV_back _ h1.2.2]
    rcases index_miss w 58 with h2 | ⟨a, b, h2, h3, _⟩
    · rw [cut1_not 58 w [] (index_not w 58 h2)] at h1
      cases h1.1
    · rw [h2, cut1_at 58 a b [] h3]
      simp
  · cases h
theorem filesOf_back : ∀ {ws : List (List UInt8)} {fs : List FileL}, filesOf ws = some fs → fs.map fileW = ws
  | [], fs, h => by cases h; rfl
  | w :: r, fs, h => by
    rw [filesOf] at h
    split at h
    · cases h
    · rename_i f hf
      rw [Option.map_eq_some_iff] at h
      obtain ⟨q, h1, rfl⟩ := h
      rw [List.map_cons, fileOf_back hf, filesOf_back h1]
theorem step_back {ws : List (List UInt8)} {y : StepL} {k : Nat} (h : stepOf ws = some (y, k)) : (y = stepK 1 0 ∧ 1 ≤ k ∧ k ≤ 1000) ∨ (k = 1 ∧ y.kind ≠ 1 ∧ stepLine y = lineL ws) := by
  unfold stepOf at h
  split at h
  · cases h
  · rename_i w0 r
    split at h
    · rename_i h0
      subst h0
      right
      unfold packOf at h
      split at h
      · cases h
      · rename_i fs hfs
        split at h
        · cases h
          refine ⟨rfl, by simp [stepK], ?_⟩
          unfold stepLine
          rw [if_pos rfl]
          simp only
          rw [filesOf_back hfs]; rfl
        · cases h
    · split at h
      · left
        unfold tickOf at h
        split at h
        · rw [Option.map_eq_some_iff] at h
          obtain ⟨v, h1, h2⟩ := h
          cases h2
          obtain ⟨_, h3, h4⟩ := numQ_back h1 (by decide) (by decide)
          exact ⟨rfl, by omega, by omega⟩
        · cases h
      · split at h
        · rename_i h0
          subst h0
          right
          unfold sideOf at h
          split at h
          · rename_i a b
            split at h
            · rename_i h1
              rw [Option.map_eq_some_iff] at h
              obtain ⟨v, h2, h3⟩ := h
              cases h3
              obtain ⟨h4, _, _⟩ := numQ_back h2 (by decide) (by decide)
              subst h1
              refine ⟨rfl, by simp [stepK], ?_⟩
              rw [h4]; rfl
            · split at h
              · rename_i h1
                rw [Option.map_eq_some_iff] at h
                obtain ⟨v, h2, h3⟩ := h
                cases h3
                obtain ⟨h4, _, _⟩ := numQ_back h2 (by decide) (by decide)
                subst h1
                refine ⟨rfl, by simp [stepK], ?_⟩
                rw [h4]; rfl
              · cases h
          · cases h
        · split at h
          · rename_i h0
            subst h0
            right
            unfold sideOf at h
            split at h
            · rename_i a b
              split at h
              · rename_i h1
                rw [Option.map_eq_some_iff] at h
                obtain ⟨v, h2, h3⟩ := h
                cases h3
                obtain ⟨h4, _, _⟩ := numQ_back h2 (by decide) (by decide)
                subst h1
                refine ⟨rfl, by simp [stepK], ?_⟩
                rw [h4]; rfl
              · split at h
                · rename_i h1
                  rw [Option.map_eq_some_iff] at h
                  obtain ⟨v, h2, h3⟩ := h
                  cases h3
                  obtain ⟨h4, _, _⟩ := numQ_back h2 (by decide) (by decide)
                  subst h1
                  refine ⟨rfl, by simp [stepK], ?_⟩
                  rw [h4]; rfl
                · cases h
            · cases h
          · split at h
            · rename_i h0
              subst h0
              right
              unfold injectOf at h
              split at h
              · rename_i a b c
                split at h
                · rename_i h1
                  split at h
                  · rename_i h2
                    rw [Option.map_eq_some_iff] at h
                    obtain ⟨v, h3, h4⟩ := h
                    cases h4
                    obtain ⟨h5, _, _⟩ := numQ_back h3 (by decide) (by decide)
                    refine ⟨rfl, by simp [stepK], ?_⟩
                    have e : stepLine ⟨6, if a = wSender then 1 else 0, [], (unhexV b).1, false, v, 0⟩ = lineL [wInject, sideL (bits BinOp.and IntKind.i64 (if a = wSender then 1 else 0) 1), hexV (unhexV b).1, Lib.itoa v] := rfl
                    rw [e, unhexV_back b h2, ← h5]
                    have e2 : sideL (bits BinOp.and IntKind.i64 (if a = wSender then 1 else 0) 1) = a := by
                      split
                      · rename_i h6; rw [h6]; rfl
                      · rename_i h6
                        rcases h1 with h1 | h1
                        · exact absurd h1 h6
                        · rw [h1]; rfl
                    rw [e2]
                  · cases h
                · cases h
              · cases h
            · split at h
              · rename_i h0
                subst h0
                right
                unfold fateOf at h
                split at h
                · rename_i a
                  split at h
                  · rename_i h1
                    cases h
                    subst h1
                    exact ⟨rfl, by decide, rfl⟩
                  · cases h
                · rename_i a b
                  rw [Option.bind_eq_some_iff] at h
                  obtain ⟨d, h1, h2⟩ := h
                  rw [Option.map_eq_some_iff] at h2
                  obtain ⟨c, h3, h4⟩ := h2
                  cases h4
                  obtain ⟨h5, _, _⟩ := numQ_back h1 (by decide) (by decide)
                  obtain ⟨h6, _, _⟩ := numQ_back h3 (by decide) (by decide)
                  refine ⟨rfl, by simp [stepK], ?_⟩
                  rw [h5, h6]; rfl
                · cases h
              · cases h
theorem step_ok {w : List UInt8} {y : StepL} {k : Nat} (h : stepOf (pieces 32 w []) = some (y, k)) (hw : w.length ≤ 900000) : StepOk y := by
  have hm : ∀ v ∈ pieces 32 w [], v.length ≤ 900000 := fun v hv => by have := pieces_mem 32 w [] v hv; simp at this; omega
  have hk : (pieces 32 w []).length ≤ 900001 := by rw [pieces_len]; have := List.count_le_length (a := (32 : UInt8)) (l := w); omega
  have i0 : isI64 0 := ⟨by decide, by decide⟩
  have fn : ∀ f ∈ ([] : List FileL), f.1.length ≤ 1000000 ∧ f.2.length ≤ 1000000 := fun f hf => by simp at hf
  unfold stepOf at h
  split at h
  · cases h
  · rename_i w0 r hr
    rw [hr] at hm hk
    split at h
    · unfold packOf at h
      split at h
      · cases h
      · rename_i fs hfs
        split at h
        · cases h
          obtain ⟨h1, h2⟩ := filesOf_mem hfs
          simp only [List.length_cons] at hk
          refine ⟨i0, i0, i0, by simp, by simp only; omega, fun f hf => ?_⟩
          obtain ⟨v, hv1, hv2⟩ := h2 f hf
          have := fileOf_len hv2
          have := hm v (by simp [hv1])
          omega
        · cases h
    · split at h
      · unfold tickOf at h
        split at h
        · rw [Option.map_eq_some_iff] at h
          obtain ⟨v, h1, h2⟩ := h
          cases h2
          exact ⟨i0, i0, i0, by simp [stepK], by simp [stepK], fn⟩
        · cases h
      · have side : ∀ (r : List (List UInt8)) (a b : Int), sideOf r a b = some (y, k) → StepOk y := fun r a b h => by
          unfold sideOf at h
          split at h
          · split at h
            · rw [Option.map_eq_some_iff] at h
              obtain ⟨v, h1, h2⟩ := h
              cases h2
              obtain ⟨_, h3, h4⟩ := numQ_back h1 (by decide) (by decide)
              exact ⟨⟨by simp only [stepK]; omega, by simp only [stepK]; omega⟩, i0, i0, by simp [stepK], by simp [stepK], fn⟩
            · split at h
              · rw [Option.map_eq_some_iff] at h
                obtain ⟨v, h1, h2⟩ := h
                cases h2
                obtain ⟨_, h3, h4⟩ := numQ_back h1 (by decide) (by decide)
                exact ⟨⟨by simp only [stepK]; omega, by simp only [stepK]; omega⟩, i0, i0, by simp [stepK], by simp [stepK], fn⟩
              · cases h
          · cases h
        split at h
        · exact side _ _ _ h
        · split at h
          · exact side _ _ _ h
          · split at h
            · unfold injectOf at h
              split at h
              · rename_i a b c
                split at h
                · split at h
                  · rw [Option.map_eq_some_iff] at h
                    obtain ⟨v, h3, h4⟩ := h
                    cases h4
                    obtain ⟨_, h5, h6⟩ := numQ_back h3 (by decide) (by decide)
                    have h7 := unhexV_len b
                    have h8 := hm b (by simp)
                    exact ⟨by simp only; split <;> exact ⟨by decide, by decide⟩, ⟨by simp only; omega, by simp only; omega⟩, i0, by simp only; omega, by simp, fn⟩
                  · cases h
                · cases h
              · cases h
            · split at h
              · unfold fateOf at h
                split at h
                · split at h
                  · cases h
                    exact ⟨i0, i0, i0, by simp, by simp, fn⟩
                  · cases h
                · rw [Option.bind_eq_some_iff] at h
                  obtain ⟨d, h1, h2⟩ := h
                  rw [Option.map_eq_some_iff] at h2
                  obtain ⟨c, h3, h4⟩ := h2
                  cases h4
                  obtain ⟨_, h5, h6⟩ := numQ_back h1 (by decide) (by decide)
                  obtain ⟨_, h7, h8⟩ := numQ_back h3 (by decide) (by decide)
                  exact ⟨i0, ⟨by simp only; omega, by simp only; omega⟩, ⟨by simp only; omega, by simp only; omega⟩, by simp, by simp, fn⟩
                · cases h
              · cases h
theorem numsV_back : ∀ {ws : List (List UInt8)} {bs : List (Int × Int)} {q : List Int}, numsV ws bs = some q → (∀ b ∈ bs, 0 ≤ b.1 ∧ b.2 ≤ 10000) → ws = q.map Lib.itoa ∧ ∀ v ∈ q, 0 ≤ v ∧ v ≤ 10000
  | [], [], q, h, _ => by simp [numsV] at h; subst h; exact ⟨rfl, fun v hv => by simp at hv⟩
  | [], _ :: _, q, h, _ => by cases h
  | _ :: _, [], q, h, _ => by cases h
  | w :: r, b :: bs, q, h, hb => by
    rw [numsV] at h
    split at h
    · rename_i h1
      rw [Option.map_eq_some_iff] at h
      obtain ⟨p, h2, rfl⟩ := h
      obtain ⟨h3, h4⟩ := numsV_back h2 fun x hx => hb x (by simp [hx])
      have hb0 := hb b (by simp)
      obtain ⟨h5, h6, h7⟩ := (numP_iff w b.1 b.2 _ (by omega) (by omega)).1 (show numP w b.1 b.2 = ((numP w b.1 b.2).1, true) by rw [← h1])
      refine ⟨by rw [List.map_cons, ← h5, ← h3], fun v hv => ?_⟩
      rcases List.mem_cons.1 hv with rfl | hv
      · omega
      · exact h4 v hv
    · cases h
theorem first_back {ws : List (List UInt8)} {a b c d : Int} (h : firstOf ws = some (a, b, c, d)) : lineL [[119, 111, 114, 108, 100], Lib.itoa a, Lib.itoa b, Lib.itoa c, Lib.itoa d] = lineL ws ∧ isI64 a ∧ isI64 b ∧ isI64 c ∧ isI64 d := by
  unfold firstOf at h
  split at h
  · rename_i w0 r
    split at h
    · rename_i h0
      subst h0
      split at h
      · rename_i q e f g i hq
        cases h
        obtain ⟨h1, h2⟩ := numsV_back hq (by intro x hx; simp at hx; rcases hx with rfl | rfl | rfl | rfl <;> decide)
        refine ⟨by rw [h1]; rfl, ?_, ?_, ?_, ?_⟩
        · have := h2 a (by simp); exact ⟨by omega, by omega⟩
        · have := h2 b (by simp); exact ⟨by omega, by omega⟩
        · have := h2 c (by simp); exact ⟨by omega, by omega⟩
        · have := h2 d (by simp); exact ⟨by omega, by omega⟩
      · cases h
    · cases h
  · cases h
def GoodStep (z : StepL) : Prop := z = stepK 1 0 ∨ (z.kind ≠ 1 ∧ ∃ w : List UInt8, 10 ∉ w ∧ w.length ≤ 900000 ∧ stepOf (pieces 32 w []) = some (z, 1) ∧ stepLine z = w ++ [10])
theorem line_pieces (w : List UInt8) : lineL (pieces 32 w []) = w ++ [10] := by
  unfold lineL; rw [join_pieces, List.nil_append]
def nt : List StepL → Nat
  | [] => 0
  | z :: r => (if z.kind = 1 then 0 else (stepLine z).length) + nt r
theorem nt_append : ∀ (a b : List StepL), nt (a ++ b) = nt a + nt b
  | [], b => by simp [nt]
  | z :: r, b => by rw [List.cons_append, nt, nt, nt_append r b]; omega
theorem nt_ticks : ∀ (k : Nat), nt (List.replicate k (stepK 1 0)) = 0
  | 0 => rfl
  | k + 1 => by rw [List.replicate_succ, nt, nt_ticks k]; rfl
theorem line_good {w : List UInt8} {L L' : List StepL} (hw : 10 ∉ w) (hl : w.length ≤ 900000) (h : addS L (stepOf (pieces 32 w [])) = some L') (hg : ∀ z ∈ L, GoodStep z) : (∀ z ∈ L', GoodStep z) ∧ L'.length ≤ 4096 ∧ nt L' ≤ nt L + w.length + 1 := by
  unfold addS at h
  split at h
  · cases h
  · rename_i z k hz
    split at h
    · rename_i hle
      cases h
      rcases step_back hz with ⟨rfl, _, _⟩ | ⟨rfl, h1, h2⟩
      · refine ⟨fun y hy => ?_, by simpa using hle, by rw [nt_append, nt_ticks]; omega⟩
        rcases List.mem_append.1 hy with hy | hy
        · exact hg y hy
        · exact .inl (List.mem_replicate.1 hy).2
      · rw [line_pieces] at h2
        refine ⟨fun y hy => ?_, by simpa using hle, ?_⟩
        · rcases List.mem_append.1 hy with hy | hy
          · exact hg y hy
          · simp at hy; subst hy; exact .inr ⟨h1, w, hw, hl, hz, h2⟩
        · rw [nt_append]
          simp only [List.replicate_one, nt, if_neg h1, h2, List.length_append, List.length_singleton]
          omega
    · cases h
def lens1 : List (List UInt8) → Nat
  | [] => 0
  | s :: r => s.length + 1 + lens1 r
theorem run_good : ∀ (ls : List (List UInt8)) (n : Nat) (x y : PS) (m : Int), (∀ s ∈ ls, 10 ∉ s ∧ s.length ≤ 900000) → n ≠ 0 → (∀ z ∈ x.2.2.2.2, GoodStep z) → x.2.2.2.2.length ≤ 4096 → runLines ls n x = (y, m, 0) →
    m = 0 ∧ y.1 = x.1 ∧ y.2.1 = x.2.1 ∧ y.2.2.1 = x.2.2.1 ∧ y.2.2.2.1 = x.2.2.2.1 ∧ (∀ z ∈ y.2.2.2.2, GoodStep z) ∧ y.2.2.2.2.length ≤ 4096 ∧ nt y.2.2.2.2 ≤ nt x.2.2.2.2 + lens1 ls
  | [], n, x, y, m, _, _, hg, hl, h => by
    simp only [runLines, Prod.mk.injEq] at h
    obtain ⟨rfl, rfl, _⟩ := h
    exact ⟨rfl, rfl, rfl, rfl, rfl, hg, hl, Nat.le_add_right _ _⟩
  | s :: r, n, x, y, m, hs, hn, hg, hl, h => by
    rw [runLines] at h
    split at h
    · simp at h
    · rename_i x1 hx1
      unfold lineOf at hx1
      rw [decide_eq_false hn] at hx1
      simp only [Bool.false_eq_true, if_false] at hx1
      rw [Option.map_eq_some_iff] at hx1
      obtain ⟨L', h1, rfl⟩ := hx1
      have hs0 := hs s (by simp)
      obtain ⟨g1, g2, g3⟩ := line_good hs0.1 hs0.2 h1 hg
      obtain ⟨k1, k2, k3, k4, k5, k6, k7, k8⟩ := run_good r (n + 1) _ y m (fun q hq => hs q (by simp [hq])) (by omega) g1 g2 h
      refine ⟨k1, k2, k3, k4, k5, k6, k7, ?_⟩
      simp only [lens1]
      simp only at k8
      omega
def GoodScr (x : PS) (B : Nat) : Prop := ∃ w0 : List UInt8, 10 ∉ w0 ∧ firstOf (pieces 32 w0 []) = some (x.1, x.2.1, x.2.2.1, x.2.2.2.1) ∧ lineL [[119, 111, 114, 108, 100], Lib.itoa x.1, Lib.itoa x.2.1, Lib.itoa x.2.2.1, Lib.itoa x.2.2.2.1] = w0 ++ [10] ∧
  isI64 x.1 ∧ isI64 x.2.1 ∧ isI64 x.2.2.1 ∧ isI64 x.2.2.2.1 ∧ (∀ z ∈ x.2.2.2.2, GoodStep z) ∧ x.2.2.2.2.length ≤ 4096 ∧ w0.length + 1 + nt x.2.2.2.2 ≤ B
theorem lens1_pieces (c : UInt8) : ∀ (l cur : List UInt8), lens1 (pieces c l cur) = cur.length + l.length + 1
  | [], cur => by simp [pieces, lens1]
  | b :: r, cur => by
    rw [pieces]
    split
    · rw [lens1, lens1_pieces]; simp; omega
    · rw [lens1_pieces]; simp; omega
theorem run_err : ∀ (ls : List (List UInt8)) (n : Nat) (x y : PS) (m e : Int), runLines ls n x = (y, m, e) → e = 0 ∨ (e ≠ 0 ∧ y = ps0)
  | [], n, x, y, m, e, h => by
    simp only [runLines, Prod.mk.injEq] at h
    exact .inl h.2.2.symm
  | s :: r, n, x, y, m, e, h => by
    rw [runLines] at h
    split at h
    · simp only [Prod.mk.injEq] at h
      obtain ⟨rfl, _, rfl⟩ := h
      exact .inr ⟨by decide, rfl⟩
    · exact run_err r (n + 1) _ y m e h
theorem parse_good {s : List UInt8} {x : PS} {n e : Int} (hs : s.length ≤ 800000) (h : parseV s = (x, n, e)) : (e = 0 ∧ n = 0 ∧ GoodScr x s.length) ∨ (e ≠ 0 ∧ x = ps0) := by
  unfold parseV at h
  split at h
  · cases h; exact .inr ⟨by decide, rfl⟩
  · split at h
    · cases h; exact .inr ⟨by decide, rfl⟩
    · rename_i hsuf
      obtain ⟨r, hr⟩ := (suffix_iff s 10).1 (by simpa using hsuf)
      subst hr
      rw [trim_eq] at h
      have hfree := pieces_free 10 r [] (by simp)
      have hlen := lens1_pieces 10 r []
      have hmem := pieces_mem 10 r []
      simp only [List.length_append, List.length_singleton] at hs ⊢
      cases hp : pieces 10 r [] with
      | nil => have := pieces_len 10 r []; rw [hp] at this; simp at this
      | cons w0 ls =>
        rw [hp] at h hfree hlen hmem
        rw [runLines] at h
        split at h
        · cases h; exact .inr ⟨by decide, rfl⟩
        · rename_i y0 hy0
          rcases run_err ls 1 y0 x n e h with rfl | he
          · left
            unfold lineOf at hy0
            simp only [decide_true, if_true] at hy0
            rw [Option.map_eq_some_iff] at hy0
            obtain ⟨⟨a, b, c, d⟩, h1, rfl⟩ := hy0
            obtain ⟨f1, f2, f3, f4, f5⟩ := first_back h1
            rw [line_pieces] at f1
            simp only at h
            obtain ⟨k1, k2, k3, k4, k5, k6, k7, k8⟩ := run_good ls 1 _ x n (fun q hq => ⟨hfree q (by simp [hq]), by have := hmem q (by simp [hq]); simp at this; omega⟩) (by decide) (by simp) (by simp) h
            simp only at k2 k3 k4 k5 k8
            simp only [lens1, List.length_nil] at hlen
            simp only [nt] at k8
            refine ⟨rfl, k1, w0, hfree w0 (by simp), by rw [k2, k3, k4, k5]; exact h1, by rw [k2, k3, k4, k5]; exact f1, by rw [k2]; exact f2, by rw [k3]; exact f3, by rw [k4]; exact f4, by rw [k5]; exact f5, k6, k7, by omega⟩
          · exact .inr he
def tickW (k : Nat) : List UInt8 := wTick ++ [32] ++ Lib.itoa (k : Int)
def linesB : Nat → List StepL → List (List UInt8)
  | _, [] => []
  | n, z :: r => if z.kind = 1 then (if tickNext r = true ∧ n + 1 < 1000 then linesB (n + 1) r else tickW (n + 1) :: linesB 0 r) else (stepLine z).dropLast :: linesB 0 r
theorem dec_digits : ∀ (u : Nat), ∀ b ∈ Lib.decDigits u, 48 ≤ b.toNat ∧ b.toNat ≤ 57 := by
  intro u
  induction u using Nat.strongRecOn with
  | _ u ih =>
    intro b hb
    by_cases h : u < 10
    · rw [Lib.decDigits_one h, List.mem_singleton] at hb
      subst hb
      rw [dig_nat h]; omega
    · rw [Lib.decDigits, dif_neg h] at hb
      rcases List.mem_append.1 hb with hb | hb
      · exact ih (u / 10) (by omega) b hb
      · rw [List.mem_singleton] at hb
        subst hb
        rw [dig_nat (Nat.mod_lt u (by decide : 10 > 0))]; omega
theorem itoa_free (v : Int) (c : UInt8) (hc : c = 10 ∨ c = 32) : c ∉ Lib.itoa v := by
  intro h
  have hd : ∀ u, c ∉ Lib.decDigits u := fun u hu => by
    have := dec_digits u c hu
    rcases hc with rfl | rfl <;> revert this <;> decide
  unfold Lib.itoa at h
  split at h
  · rcases List.mem_cons.1 h with h | h
    · rcases hc with rfl | rfl <;> exact absurd h (by decide)
    · exact hd _ h
  · exact hd _ h
theorem tickW_free (k : Nat) : 10 ∉ tickW k := by
  unfold tickW wTick
  intro h
  rcases List.mem_append.1 h with h | h
  · revert h; decide
  · exact itoa_free _ _ (.inl rfl) h
theorem tickW_pieces (k : Nat) : pieces 32 (tickW k) [] = [wTick, Lib.itoa (k : Int)] := by
  have : tickW k = Lib.join [wTick, Lib.itoa (k : Int)] [32] := by rw [join_cons2, join_one]; rfl
  rw [this]
  refine pieces_join 32 _ (by simp) fun w hw => ?_
  simp at hw
  rcases hw with rfl | rfl
  · decide
  · exact itoa_free _ _ (.inr rfl)
theorem tickW_line (k : Nat) : lineL [wTick, Lib.itoa (k : Int)] = tickW k ++ [10] := by
  rw [← tickW_pieces k, line_pieces]
theorem tick_step (k : Nat) (h1 : 1 ≤ k) (h2 : k ≤ 1000) : stepOf (pieces 32 (tickW k) []) = some (stepK 1 0, k) := by
  rw [tickW_pieces]
  have hn : numQ (Lib.itoa (k : Int)) 1 1000 = some (k : Int) := by
    unfold numQ
    have := (numP_iff (Lib.itoa (k : Int)) 1 1000 k (by decide) (by decide)).2 ⟨rfl, by omega, by omega⟩
    rw [this]; rfl
  show tickOf [Lib.itoa (k : Int)] = _
  simp only [tickOf, hn]
  simp
theorem linesB_free : ∀ (L : List StepL) (n : Nat), (∀ z ∈ L, GoodStep z) → ∀ w ∈ linesB n L, 10 ∉ w
  | [], n, _, w, hw => by simp [linesB] at hw
  | z :: r, n, hg, w, hw => by
    have hr : ∀ y ∈ r, GoodStep y := fun y hy => hg y (by simp [hy])
    rw [linesB] at hw
    split at hw
    · split at hw
      · exact linesB_free r _ hr w hw
      · rcases List.mem_cons.1 hw with rfl | hw
        · exact tickW_free _
        · exact linesB_free r _ hr w hw
    · rename_i hk
      rcases List.mem_cons.1 hw with rfl | hw
      · rcases hg z (by simp) with rfl | ⟨_, v, h1, _, _, h4⟩
        · exact absurd rfl hk
        · rw [h4, List.dropLast_concat]; exact h1
      · exact linesB_free r _ hr w hw
theorem printB_lines : ∀ (L : List StepL) (n : Nat), (∀ z ∈ L, GoodStep z) → printB n L = (linesB n L).flatMap (· ++ [10])
  | [], n, _ => rfl
  | z :: r, n, hg => by
    have hr : ∀ y ∈ r, GoodStep y := fun y hy => hg y (by simp [hy])
    rw [printB, linesB]
    split
    · split
      · exact printB_lines r _ hr
      · rw [List.flatMap_cons, printB_lines r 0 hr]
        congr 1
        exact tickW_line (n + 1)
    · rename_i hk
      rw [List.flatMap_cons, printB_lines r 0 hr]
      congr 1
      rcases hg z (by simp) with rfl | ⟨_, v, h1, _, _, h4⟩
      · exact absurd rfl hk
      · rw [h4, List.dropLast_concat]
theorem rerun (a b c d : Int) : ∀ (L : List StepL) (n k : Nat) (acc : List StepL), k ≠ 0 → (∀ z ∈ L, GoodStep z) → acc.length + n + L.length ≤ 4096 → n < 1000 → (n ≠ 0 → tickNext L = true) →
    runLines (linesB n L) k (a, b, c, d, acc) = ((a, b, c, d, acc ++ List.replicate n (stepK 1 0) ++ L), 0, 0)
  | [], n, k, acc, _, _, _, _, ht => by
    have : n = 0 := by
      apply Decidable.byContradiction
      intro h
      exact absurd (ht h) (by decide)
    subst this
    simp [linesB, runLines]
  | z :: r, n, k, acc, hk, hg, hl, hn, ht => by
    have hr : ∀ y ∈ r, GoodStep y := fun y hy => hg y (by simp [hy])
    simp only [List.length_cons] at hl
    rw [linesB]
    split
    · rename_i hz
      have hze : z = stepK 1 0 := by
        rcases hg z (by simp) with h | h
        · exact h
        · exact absurd hz h.1
      subst hze
      split
      · rename_i hc
        rw [rerun a b c d r (n + 1) k acc hk hr (by omega) hc.2 (fun _ => hc.1)]
        rw [List.replicate_succ']
        simp
      · rw [runLines]
        have e : lineOf (decide (k = 0)) (a, b, c, d, acc) (pieces 32 (tickW (n + 1)) []) = some (a, b, c, d, acc ++ List.replicate (n + 1) (stepK 1 0)) := by
          unfold lineOf
          rw [decide_eq_false hk]
          simp only [Bool.false_eq_true, if_false]
          rw [tick_step (n + 1) (by omega) (by omega)]
          unfold addS
          simp only
          rw [if_pos (by omega)]; rfl
        rw [e]
        simp only
        rw [rerun a b c d r 0 (k + 1) _ (by omega) hr (by simp; omega) (by decide) (fun h => absurd rfl h)]
        rw [List.replicate_succ']
        simp
    · rename_i hz
      have hn0 : n = 0 := by
        apply Decidable.byContradiction
        intro h
        exact hz (of_decide_eq_true (ht h))
      subst hn0
      rcases hg z (by simp) with rfl | ⟨_, v, h1, _, h3, h4⟩
      · exact absurd rfl hz
      · rw [h4, List.dropLast_concat, runLines]
        have e : lineOf (decide (k = 0)) (a, b, c, d, acc) (pieces 32 v []) = some (a, b, c, d, acc ++ [z]) := by
          unfold lineOf
          rw [decide_eq_false hk]
          simp only [Bool.false_eq_true, if_false]
          rw [h3]
          unfold addS
          simp only
          rw [if_pos (by omega)]; rfl
        rw [e]
        simp only
        rw [rerun a b c d r 0 (k + 1) _ (by omega) hr (by simp; omega) (by decide) (fun h => absurd rfl h)]
        simp
theorem flat_join : ∀ (w : List UInt8) (ls : List (List UInt8)), (w :: ls).flatMap (· ++ [10]) = Lib.join (w :: ls) [10] ++ [10]
  | w, [] => by rw [join_one]; simp
  | w, v :: r => by rw [List.flatMap_cons, flat_join v r, join_cons2]; simp
theorem itoa_short : ∀ n : Fin 1001, (Lib.itoa (n.val : Int)).length ≤ 4 := by decide +kernel
theorem printB_len : ∀ (L : List StepL) (n : Nat), n < 1000 → (printB n L).length ≤ nt L + 12 * L.length
  | [], n, _ => by simp [printB, nt]
  | z :: r, n, hn => by
    rw [printB, nt]
    simp only [List.length_cons]
    split
    · split
      · rename_i h; have := printB_len r (n + 1) h.2; omega
      · have h0 := printB_len r 0 (by decide)
        have h1 := itoa_short ⟨n + 1, by omega⟩
        have h2 : (lineL [[116, 105, 99, 107], Lib.itoa ((n + 1 : Nat) : Int)]).length = 6 + (Lib.itoa ((n + 1 : Nat) : Int)).length := by
          rw [show ([116, 105, 99, 107] : List UInt8) = wTick from rfl, tickW_line]; simp [tickW, wTick]; omega
        rw [List.length_append, h2]
        simp only at h1
        omega
    · have h0 := printB_len r 0 (by decide)
      rw [List.length_append]; omega
theorem print_len {x : PS} {B : Nat} (h : GoodScr x B) : (printV x).length ≤ B + 49152 := by
  obtain ⟨w0, _, _, h1, _, _, _, _, _, h2, h3⟩ := h
  unfold printV
  rw [h1]
  have := printB_len x.2.2.2.2 0 (by decide)
  simp only [List.length_append, List.length_singleton]
  omega
theorem back {x : PS} {B : Nat} (h : GoodScr x B) (hB : B ≤ 200000) : parseV (printV x) = (x, 0, 0) := by
  have hlen := print_len h
  obtain ⟨w0, hw0, h1, h2, _, _, _, _, hg, hl, _⟩ := h
  obtain ⟨a, b, c, d, L⟩ := x
  simp only at h1 h2 hg hl
  have e : printV (a, b, c, d, L) = Lib.join (w0 :: linesB 0 L) [10] ++ [10] := by
    rw [← flat_join, List.flatMap_cons, ← printB_lines L 0 hg, ← h2]; rfl
  rw [e] at hlen ⊢
  unfold parseV
  rw [if_neg (by omega)]
  have hs : Lib.hasSuffix (Lib.join (w0 :: linesB 0 L) [10] ++ [10]) [10] = true := (suffix_iff _ _).2 ⟨_, rfl⟩
  rw [if_neg (by rw [hs]; decide), trim_eq, pieces_join 10 _ (by simp) (fun w hw => by
    rcases List.mem_cons.1 hw with rfl | hw
    · exact hw0
    · exact linesB_free L 0 hg w hw), runLines]
  have e1 : lineOf (decide (0 = 0)) ps0 (pieces 32 w0 []) = some (a, b, c, d, []) := by
    unfold lineOf
    simp only [decide_true, if_true]
    rw [h1]; rfl
  rw [e1]
  simp only
  rw [rerun a b c d L 0 (0 + 1) [] (by decide) hg (by simp; omega) (by decide) (fun h => absurd rfl h)]
  simp
end Go.Proofs.YthcleiegefhmdaaGreatDoor
namespace Go.Proofs.YthcleiegefhmdaaGreatDoor
open Go.RowKit Abs
set_option maxRecDepth 100000 in
set_option maxHeartbeats 2000000 in
theorem filesame_spec (files : List FileL) (a b : Option Addr) (ca cb : Nat) (m : Mem) (hA : Rd m 2 (.slice a files.length ca) files.length (files.flatMap fileC)) (hB : Rd m 2 (.slice b files.length cb) files.length (files.flatMap fileC)) (hl : files.length ≤ 1000000000) :
    Abs.Spec Tryz.prog 33 [.slice a files.length ca, .slice b files.length cb] m fun u M => u = .bool true ∧ M = m := by
  refine Abs.Spec.walkB Tryz.func33 (by rfl) _ Tryz.results33 _ Tryz.ntmps33 (by simp) m [] (ext_nil m).symm 0 rfl (.inl rfl) ?_
  intro hc hx
  replace hx := hx rfl
  have fa : ∀ keep j, ren (sig m.size keep) j (.slice a files.length ca) = some (.slice a files.length ca) := Cl.fix (hx _ (by simp))
  have fb : ∀ keep j, ren (sig m.size keep) j (.slice b files.length cb) = some (.slice b files.length cb) := Cl.fix (hx _ (by simp))
  have z0 : ((files.length : Int) != (files.length : Int)) = false := by simp
  refine CW_seq (CW_region ?_)
  simp only [zZ, reduceIte, Nat.reduceLT, Int.reduceToNat, Int.reduceLE, Int.reduceEq, Int.reduceLT, Nat.reduceEqDiff, Nat.reduceAdd, zTy]
  refine CW_seq (CW_seq (CW_region ?_))
  simp only [zZ, reduceIte, Nat.reduceLT, Int.reduceToNat, Int.reduceLE, Int.reduceEq, Int.reduceLT, Nat.reduceEqDiff, Nat.reduceAdd, zTy, z0]
  refine CW_cond false (by rfl) (fun h => by cases h) (fun _ => CW_skip ?_)
  simp only [zZ, reduceIte, Nat.reduceLT, Int.reduceToNat, Int.reduceLE, Int.reduceEq, Int.reduceLT, Nat.reduceEqDiff, Nat.reduceAdd]
  refine CW_seq (CW_seq (CW_region ?_))
  simp only [zZ, reduceIte, Nat.reduceLT, Int.reduceToNat, Int.reduceLE, Int.reduceEq, Int.reduceLT, Nat.reduceEqDiff, Nat.reduceAdd, zTy]
  refine CW_block (BW_loop hc (fun n f l => ∃ t : Nat, t + n = files.length ∧ f = [(0, .slice a files.length ca), (1, .slice b files.length cb), (5, .int .i64 (t : Nat))] ∧ l = []) files.length ?_ ?_)
  · refine ⟨_, rfl, [], [0, 1, 5], rfl, ?_⟩
    simp only [zZ, reduceIte, Nat.reduceLT, Int.reduceToNat, Int.reduceLE, Int.reduceEq, Int.reduceLT, Nat.reduceEqDiff, Nat.reduceAdd, zG, fa, fb]
    exact ⟨0, by omega, rfl⟩
  · rintro n f l ⟨t, htn, rfl, rfl⟩
    refine CW_seq (CW_seq (CW_region ?_))
    simp only [zZ, reduceIte, Nat.reduceLT, Int.reduceToNat, Int.reduceLE, Int.reduceEq, Int.reduceLT, Nat.reduceEqDiff, Nat.reduceAdd, zTy]
    refine CW_cond (decide ((t : Int) < (files.length : Int))) (by rfl) (fun h => CW_skip ?_) (fun h => CW_exit ?_)
    · simp only [zZ, reduceIte, Nat.reduceLT, Int.reduceToNat, Int.reduceLE, Int.reduceEq, Int.reduceLT, Nat.reduceEqDiff, Nat.reduceAdd]
      have htl : t < files.length := by have := of_decide_eq_true h; omega
      have h0 : (0 : Int) ≤ (t : Int) := by omega
      have h1 : (t : Int) < (files.length : Int) := by omega
      obtain ⟨ga, ra, hpa, hga⟩ := hA.at (by omega)
      obtain ⟨gb, rb, hpb, hgb⟩ := hB.at (by omega)
      have hla : ∀ l, (ext m l).get ga = some (.cells ra 2 (files.flatMap fileC)) := fun l => ext_get_old l hga
      have hlb : ∀ l, (ext m l).get gb = some (.cells rb 2 (files.flatMap fileC)) := fun l => ext_get_old l hgb
      have sa : ∀ keep, sig m.size keep ga = some ga := fun keep => sig_old keep (Mem.get_lt hga)
      have sb : ∀ keep, sig m.size keep gb = some gb := fun keep => sig_old keep (Mem.get_lt hgb)
      obtain ⟨A, hF⟩ : ∃ A, files[t]? = some A := ⟨_, List.getElem?_eq_getElem htl⟩
      have c0 : (files.flatMap fileC)[t * 2]? = some (.string (str A.1)) := flatMap_get (fun a _ => fileC_len a) hF (o := 0) (by decide)
      have c1 : (files.flatMap fileC)[t * 2 + 1]? = some (.string (str A.2)) := flatMap_get (fun a _ => fileC_len a) hF (o := 1) (by decide)
      have e0 : ∀ s : List UInt8, (!beqB (str s) (str s)) = false := fun s => by rw [beqB_str, decide_eq_true rfl]; rfl
      have ti : IntKind.i64.wrap ((t : Int) + 1) = ((t + 1 : Nat) : Int) := by rw [wr (by omega) (by omega)]; omega
      subst hpa
      subst hpb
      refine CW_seq (CW_block (CW_seq (CW_draw hmix 22 (by kernel_rfl) (by kernel_rfl) ?_)))
      simp only [zZ, reduceIte, Nat.reduceLT, Int.reduceToNat, Int.reduceLE, Int.reduceEq, Int.reduceLT, Nat.reduceEqDiff, Nat.reduceAdd, zTy, h0, h1, and_self, hla, hlb, c0, c1, e0]
      refine CW_cond false (by rfl) (fun h => by cases h) (fun _ => CW_skip ?_)
      simp only [zZ, reduceIte, Nat.reduceLT, Int.reduceToNat, Int.reduceLE, Int.reduceEq, Int.reduceLT, Nat.reduceEqDiff, Nat.reduceAdd]
      refine CW_region ?_
      simp only [zZ, reduceIte, Nat.reduceLT, Int.reduceToNat, Int.reduceLE, Int.reduceEq, Int.reduceLT, Nat.reduceEqDiff, Nat.reduceAdd, zTy, ti]
      refine ⟨_, rfl, [], [0, 1, 5], rfl, ?_⟩
      simp only [zZ, reduceIte, Nat.reduceLT, Int.reduceToNat, Int.reduceLE, Int.reduceEq, Int.reduceLT, Nat.reduceEqDiff, Nat.reduceAdd, zG, sa, sb]
      exact ⟨n - 1, ⟨t + 1, by omega, rfl⟩, by omega⟩
    · simp only [zZ, reduceIte, Nat.reduceLT, Int.reduceToNat, Int.reduceLE, Int.reduceEq, Int.reduceLT, Nat.reduceEqDiff, Nat.reduceAdd]
      refine CW_seq (CW_region ?_)
      simp only [zZ, reduceIte, Nat.reduceLT, Int.reduceToNat, Int.reduceLE, Int.reduceEq, Int.reduceLT, Nat.reduceEqDiff, Nat.reduceAdd, zTy]
      refine CW_ret ?_
      simp only [zZ, reduceIte, Nat.reduceLT, Int.reduceToNat, Int.reduceLE, Int.reduceEq, Int.reduceLT, Nat.reduceEqDiff, Nat.reduceAdd, zTy, bEnd, sAnswer, sAnswer.sRes]
      exact told_flat rfl rfl
theorem ne_fate (cx : Bool) (b : Bool) (d c : Int) : aBin Tryz.prog .neq 50 cx (.agg #[.bool b, .int .i64 d, .int .i64 c]) (.agg #[.bool b, .int .i64 d, .int .i64 c]) = some (.bool false) := by
  have e0 : ∀ (b1 b2 : Bool) (d1 d2 c1 c2 : Int), aBin Tryz.prog .neq 50 cx (.agg #[.bool b1, .int .i64 d1, .int .i64 c1]) (.agg #[.bool b2, .int .i64 d2, .int .i64 c2]) = (match some (b1 == b2) with
      | some true => (match some (d1 == d2) with
        | some true => (match some (c1 == c2) with
          | some true => some true
          | some false => some false
          | none => none)
        | some false => some false
        | none => none)
      | some false => some false
      | none => none).map fun b => .bool !b := fun _ _ _ _ _ _ => by kernel_rfl
  rw [e0]
  simp
set_option maxRecDepth 100000 in
set_option maxHeartbeats 2000000 in
theorem samesteps_spec (L : List StepL) (a b : Option Addr) (ca cb : Nat) (m : Mem) (hA : ScrAt m (.slice a L.length ca) L) (hB : ScrAt m (.slice b L.length cb) L) (hl : L.length ≤ 1000000000) (hfl : ∀ x ∈ L, x.files.length ≤ 1000000000) :
    Abs.Spec Tryz.prog 15 [.slice a L.length ca, .slice b L.length cb] m fun u M => u = .bool true ∧ M = m := by
  refine Abs.Spec.walkB Tryz.func15 (by rfl) _ Tryz.results15 _ Tryz.ntmps15 (by simp) m [] (ext_nil m).symm 0 rfl (.inl rfl) ?_
  intro hc hx
  replace hx := hx rfl
  have fa : ∀ keep j, ren (sig m.size keep) j (.slice a L.length ca) = some (.slice a L.length ca) := Cl.fix (hx _ (by simp))
  have fb : ∀ keep j, ren (sig m.size keep) j (.slice b L.length cb) = some (.slice b L.length cb) := Cl.fix (hx _ (by simp))
  have z0 : ((L.length : Int) != (L.length : Int)) = false := by simp
  have zz : ∀ k : Int, (k != k) = false := fun k => by simp
  have hal := al_Step
  generalize aStride Tryz.prog 52 = s1 at hal
  obtain ⟨LA, hA1, hA2, hA3⟩ := hA
  obtain ⟨LB, hB1, hB2, hB3⟩ := hB
  have hLA : LA.length = L.length := by rw [← hA1, List.length_map]
  have hLB : LB.length = L.length := by rw [← hB1, List.length_map]
  refine CW_seq (CW_region ?_)
  simp only [zZ, reduceIte, Nat.reduceLT, Int.reduceToNat, Int.reduceLE, Int.reduceEq, Int.reduceLT, Nat.reduceEqDiff, Nat.reduceAdd, zTy]
  refine CW_seq (CW_seq (CW_region ?_))
  simp only [zZ, reduceIte, Nat.reduceLT, Int.reduceToNat, Int.reduceLE, Int.reduceEq, Int.reduceLT, Nat.reduceEqDiff, Nat.reduceAdd, zTy, z0]
  refine CW_cond false (by rfl) (fun h => by cases h) (fun _ => CW_skip ?_)
  simp only [zZ, reduceIte, Nat.reduceLT, Int.reduceToNat, Int.reduceLE, Int.reduceEq, Int.reduceLT, Nat.reduceEqDiff, Nat.reduceAdd]
  refine CW_seq (CW_seq (CW_region ?_))
  simp only [zZ, reduceIte, Nat.reduceLT, Int.reduceToNat, Int.reduceLE, Int.reduceEq, Int.reduceLT, Nat.reduceEqDiff, Nat.reduceAdd, zTy]
  refine CW_block (BW_loop hc (fun n f l => ∃ t : Nat, t + n = L.length ∧ f = [(0, .slice a L.length ca), (1, .slice b L.length cb), (5, .int .i64 (t : Nat))] ∧ l = []) L.length ?_ ?_)
  · refine ⟨_, rfl, [], [0, 1, 5], rfl, ?_⟩
    simp only [zZ, reduceIte, Nat.reduceLT, Int.reduceToNat, Int.reduceLE, Int.reduceEq, Int.reduceLT, Nat.reduceEqDiff, Nat.reduceAdd, zG, fa, fb]
    exact ⟨0, by omega, rfl⟩
  · rintro n f l ⟨t, htn, rfl, rfl⟩
    refine CW_seq (CW_seq (CW_region ?_))
    simp only [zZ, reduceIte, Nat.reduceLT, Int.reduceToNat, Int.reduceLE, Int.reduceEq, Int.reduceLT, Nat.reduceEqDiff, Nat.reduceAdd, zTy]
    refine CW_cond (decide ((t : Int) < (L.length : Int))) (by rfl) (fun h => CW_skip ?_) (fun h => CW_exit ?_)
    · simp only [zZ, reduceIte, Nat.reduceLT, Int.reduceToNat, Int.reduceLE, Int.reduceEq, Int.reduceLT, Nat.reduceEqDiff, Nat.reduceAdd]
      have htl : t < L.length := by have := of_decide_eq_true h; omega
      have h0 : (0 : Int) ≤ (t : Int) := by omega
      have h1 : (t : Int) < (L.length : Int) := by omega
      obtain ⟨ga, ra, hpa, hga⟩ := hA3.at (by omega)
      obtain ⟨gb, rb, hpb, hgb⟩ := hB3.at (by omega)
      have hla : ∀ l, (ext m l).get ga = some (.cells ra 7 (LA.flatMap stepC)) := fun l => ext_get_old l hga
      have hlb : ∀ l, (ext m l).get gb = some (.cells rb 7 (LB.flatMap stepC)) := fun l => ext_get_old l hgb
      have sa : ∀ keep, sig m.size keep ga = some ga := fun keep => sig_old keep (Mem.get_lt hga)
      have sb : ∀ keep, sig m.size keep gb = some gb := fun keep => sig_old keep (Mem.get_lt hgb)
      obtain ⟨⟨x, V⟩, hX⟩ : ∃ A, LA[t]? = some A := ⟨_, List.getElem?_eq_getElem (by omega)⟩
      obtain ⟨⟨x', V'⟩, hX'⟩ : ∃ A, LB[t]? = some A := ⟨_, List.getElem?_eq_getElem (by omega)⟩
      have hxx : x' = x := by
        have e1 : (LA.map Prod.fst)[t]? = some x := by rw [List.getElem?_map, hX]; rfl
        have e2 : (LB.map Prod.fst)[t]? = some x' := by rw [List.getElem?_map, hX']; rfl
        rw [hA1] at e1
        rw [hB1, e1] at e2
        exact (Option.some.inj e2).symm
      subst hxx
      have hxL : x' ∈ L := by rw [← hA1]; exact List.mem_map.2 ⟨_, List.mem_of_getElem? hX, rfl⟩
      have hV := hA2 _ (List.mem_of_getElem? hX)
      have hV' := hB2 _ (List.mem_of_getElem? hX')
      simp only at hV hV'
      obtain ⟨va, vc, rfl⟩ := hV.len
      obtain ⟨wa, wc, rfl⟩ := hV'.len
      have r1 : rowIn 7 (t * 7) (some (.cells ra 7 (LA.flatMap stepC))) = some (.agg #[.int .i64 x'.kind, .int .i64 x'.n, .slice va x'.files.length vc, .string (str x'.text), .bool x'.drop, .int .i64 x'.delay, .int .i64 x'.copies]) := rowIn_at (n := 7) (fun a _ => stepC_len a) hX ra 7
      have r2 : rowIn 7 (t * 7) (some (.cells rb 7 (LB.flatMap stepC))) = some (.agg #[.int .i64 x'.kind, .int .i64 x'.n, .slice wa x'.files.length wc, .string (str x'.text), .bool x'.drop, .int .i64 x'.delay, .int .i64 x'.copies]) := rowIn_at (n := 7) (fun a _ => stepC_len a) hX' rb 7
      have e0 : ∀ s : List UInt8, (!beqB (str s) (str s)) = false := fun s => by rw [beqB_str, decide_eq_true rfl]; rfl
      have ti : IntKind.i64.wrap ((t : Int) + 1) = ((t + 1 : Nat) : Int) := by rw [wr (by omega) (by omega)]; omega
      subst hpa
      subst hpb
      refine CW_seq (CW_block (CW_seq (CW_draw4 hmix 10 [4, 5, 6, 7] (by kernel_rfl) ?_)))
      simp only [sQB, idleOK, List.getElem?_cons_succ, List.getElem?_cons_zero, Option.bind_some, zZ, reduceIte, Nat.reduceLT, Int.reduceToNat, Int.reduceLE, Int.reduceEq, Int.reduceLT, Nat.reduceEqDiff, Nat.reduceAdd, zTy, h0, h1, and_self, hla, hlb, r1, r2, hal]
      refine ⟨⟨⟨_, rfl⟩, ⟨_, rfl⟩, ⟨_, rfl⟩, ⟨_, rfl⟩⟩, ?_⟩
      refine CW_seq (CW_region ?_)
      simp only [zZ, reduceIte, Nat.reduceLT, Int.reduceToNat, Int.reduceLE, Int.reduceEq, Int.reduceLT, Nat.reduceEqDiff, Nat.reduceAdd, zTy, zz, e0, ne_fate]
      refine ⟨by kernel_rfl, _, filesame_spec x'.files va wa vc wc _ (hV.rd.grow (Grows.ext m _)) (hV'.rd.grow (Grows.ext m _)) (hfl _ hxL), ?_⟩
      rintro _ _ ⟨rfl, rfl⟩
      simp only [zZ, reduceIte, Nat.reduceLT, Int.reduceToNat, Int.reduceLE, Int.reduceEq, Int.reduceLT, Nat.reduceEqDiff, Nat.reduceAdd, zTy]
      refine CW_cond false (by rfl) (fun h => by cases h) (fun _ => CW_skip ?_)
      simp only [zZ, reduceIte, Nat.reduceLT, Int.reduceToNat, Int.reduceLE, Int.reduceEq, Int.reduceLT, Nat.reduceEqDiff, Nat.reduceAdd]
      refine CW_region ?_
      simp only [zZ, reduceIte, Nat.reduceLT, Int.reduceToNat, Int.reduceLE, Int.reduceEq, Int.reduceLT, Nat.reduceEqDiff, Nat.reduceAdd, zTy, ti]
      refine ⟨_, rfl, [], [0, 1, 5], rfl, ?_⟩
      simp only [zZ, reduceIte, Nat.reduceLT, Int.reduceToNat, Int.reduceLE, Int.reduceEq, Int.reduceLT, Nat.reduceEqDiff, Nat.reduceAdd, zG, sa, sb]
      exact ⟨n - 1, ⟨t + 1, by omega, rfl⟩, by omega⟩
    · simp only [zZ, reduceIte, Nat.reduceLT, Int.reduceToNat, Int.reduceLE, Int.reduceEq, Int.reduceLT, Nat.reduceEqDiff, Nat.reduceAdd]
      refine CW_seq (CW_region ?_)
      simp only [zZ, reduceIte, Nat.reduceLT, Int.reduceToNat, Int.reduceLE, Int.reduceEq, Int.reduceLT, Nat.reduceEqDiff, Nat.reduceAdd, zTy]
      refine CW_ret ?_
      simp only [zZ, reduceIte, Nat.reduceLT, Int.reduceToNat, Int.reduceLE, Int.reduceEq, Int.reduceLT, Nat.reduceEqDiff, Nat.reduceAdd, zTy, bEnd, sAnswer, sAnswer.sRes]
      exact told_flat rfl rfl
end Go.Proofs.YthcleiegefhmdaaGreatDoor
namespace Go.Proofs.YthcleiegefhmdaaGreatDoor
open Go.RowKit Abs
set_option maxRecDepth 100000 in
set_option maxHeartbeats 2000000 in
theorem rsplit_spec (s : List UInt8) (c : UInt8) (hs : s.length ≤ 999999) (m : Mem) :
    Abs.Spec Tryz.prog 12 [.string (str s), .int .u8 c.toNat] m fun u M => u = .slice (some ⟨m.size, 0, none⟩) (pieces c s []).length (pieces c s []).length ∧ M = ext m [some (some (.cells false 1 (sC (pieces c s []))))] := by
  refine Abs.Spec.walkB Tryz.func12 (by rfl) _ Tryz.results12 _ Tryz.ntmps12 (by simp) m [] (ext_nil m).symm 0 rfl (.inl rfl) ?_
  intro hc _
  obtain ⟨R, hR⟩ : ∃ R, R = pieces c s [] := ⟨_, rfl⟩
  rw [← hR]
  refine CW_seq (CW_region ?_)
  simp only [zZ, reduceIte, Nat.reduceLT, Int.reduceToNat, Int.reduceLE, Int.reduceEq, Int.reduceLT, Nat.reduceEqDiff, Nat.reduceAdd, zTy]
  refine CW_seq (CW_region ?_)
  simp only [zZ, reduceIte, Nat.reduceLT, Int.reduceToNat, Int.reduceLE, Int.reduceEq, Int.reduceLT, Nat.reduceEqDiff, Nat.reduceAdd, zTy]
  refine CW_seq (CW_region ?_)
  simp only [zZ, reduceIte, Nat.reduceLT, Int.reduceToNat, Int.reduceLE, Int.reduceEq, Int.reduceLT, Nat.reduceEqDiff, Nat.reduceAdd, zTy]
  refine CW_seq (CW_seq (CW_region ?_))
  simp only [zZ, reduceIte, Nat.reduceLT, Int.reduceToNat, Int.reduceLE, Int.reduceEq, Int.reduceLT, Nat.reduceEqDiff, Nat.reduceAdd, zTy]
  refine CW_block (BW_loop hc (fun n f l => ∃ (t a : Nat) (q : List (List UInt8)) (V : Value), t + n = s.length ∧ a ≤ t ∧ q.length ≤ t ∧ R = q ++ pieces c (s.drop t) ((s.drop a).take (t - a)) ∧
    f = [(0, .string (str s)), (1, .int .u8 c.toNat), (5, V), (6, .int .i64 (a : Nat)), (7, .int .i64 (t : Nat))] ∧
    ((q = [] ∧ V = .slice none 0 0 ∧ l = []) ∨ (q ≠ [] ∧ V = .slice (some ⟨m.size + 0, 0, none⟩) q.length q.length ∧ l = [some (some (.cells false 1 (sC q)))]))) s.length ?_ ?_)
  · refine ⟨_, rfl, [], [0, 1, 5, 6, 7], rfl, ?_⟩
    simp only [zZ, reduceIte, Nat.reduceLT, Int.reduceToNat, Int.reduceLE, Int.reduceEq, Int.reduceLT, Nat.reduceEqDiff, Nat.reduceAdd, zG]
    exact ⟨0, 0, [], _, by omega, by omega, by simp, by rw [hR]; rfl, rfl, .inl ⟨rfl, rfl⟩⟩
  · rintro n f l ⟨t, a, q, V, htn, hat, hqt, hun, rfl, hV⟩
    refine CW_seq (CW_seq (CW_region ?_))
    simp only [zZ, reduceIte, Nat.reduceLT, Int.reduceToNat, Int.reduceLE, Int.reduceEq, Int.reduceLT, Nat.reduceEqDiff, Nat.reduceAdd, zTy, bsize_str]
    refine CW_cond (decide ((t : Int) < (s.length : Int))) (by rfl) (fun h => CW_skip ?_) (fun h => CW_exit ?_)
    · simp only [zZ, reduceIte, Nat.reduceLT, Int.reduceToNat, Int.reduceLE, Int.reduceEq, Int.reduceLT, Nat.reduceEqDiff, Nat.reduceAdd]
      have htl : t < s.length := by have := of_decide_eq_true h; omega
      obtain ⟨b, hb⟩ : ∃ b, s[t]? = some b := ⟨_, List.getElem?_eq_getElem htl⟩
      have hdr := List.drop_eq_getElem_cons htl
      rw [(List.getElem?_eq_some_iff.1 hb).2] at hdr
      have ib := idx_str s t b hb
      have xi : IntKind.i64.wrap ((t : Int) + 1) = ((t + 1 : Nat) : Int) := by rw [wr (by omega) (by omega)]; omega
      have hsl := fun get => slice_mid get s a t hat (by omega)
      have ta := wr (x := (t : Int)) (by omega) (by omega)
      refine CW_seq (CW_block (CW_seq (CW_region ?_)))
      simp only [zZ, reduceIte, Nat.reduceLT, Int.reduceToNat, Int.reduceLE, Int.reduceEq, Int.reduceLT, Nat.reduceEqDiff, Nat.reduceAdd, zTy, ib, u8_eql]
      refine CW_cond (decide (b = c)) (by rfl) (fun hbc => CW_seq (CW_region ?_)) (fun hbc => CW_skip ?_)
      · have hbc := of_decide_eq_true hbc
        have hun2 : R = (q ++ [(s.drop a).take (t - a)]) ++ pieces c (s.drop (t + 1)) ((s.drop (t + 1)).take (t + 1 - (t + 1))) := by
          rw [hun, hdr, pieces, if_pos hbc, Nat.sub_self, List.take_zero]; simp
        obtain ⟨p, hp⟩ : ∃ p, p = (s.drop a).take (t - a) := ⟨_, rfl⟩
        rw [← hp] at hsl hun2
        rcases hV with ⟨rfl, rfl, rfl⟩ | ⟨hq0, rfl, rfl⟩
        · have ha := sapp_nil m [some (some (.cells false 1 [.string (str p)]))] 0 p rfl
          simp only [zZ, reduceIte, Nat.reduceLT, Int.reduceToNat, Int.reduceLE, Int.reduceEq, Int.reduceLT, Nat.reduceEqDiff, Nat.reduceAdd, zTy, hsl, new_str1, List.nil_append, List.length_nil, List.length_cons, ha]
          refine CW_region ?_
          simp only [zZ, reduceIte, Nat.reduceLT, Int.reduceToNat, Int.reduceLE, Int.reduceEq, Int.reduceLT, Nat.reduceEqDiff, Nat.reduceAdd, zTy, xi]
          refine CW_region ?_
          simp only [zZ, reduceIte, Nat.reduceLT, Int.reduceToNat, Int.reduceLE, Int.reduceEq, Int.reduceLT, Nat.reduceEqDiff, Nat.reduceAdd, zTy, xi]
          refine ⟨_, rfl, [1], [0, 1, 5, 6, 7], rfl, ?_⟩
          simp only [zZ, reduceIte, Nat.reduceLT, Int.reduceToNat, Int.reduceLE, Int.reduceEq, Int.reduceLT, Nat.reduceEqDiff, Nat.reduceAdd, zG, sC_flat]
          exact ⟨n - 1, ⟨t + 1, t + 1, [p], _, by omega, by omega, by simp, hun2, rfl, .inr ⟨by simp, rfl, rfl⟩⟩, by omega⟩
        · have ha := sapp m [some (some (.cells false 1 (sC q))), some (some (.cells false 1 [.string (str p)]))] 1 0 q p rfl rfl (by omega)
          simp only [zZ, reduceIte, Nat.reduceLT, Int.reduceToNat, Int.reduceLE, Int.reduceEq, Int.reduceLT, Nat.reduceEqDiff, Nat.reduceAdd, zTy, hsl, new_str1, List.cons_append, List.nil_append, List.length_nil, List.length_cons, ha]
          refine CW_region ?_
          simp only [zZ, reduceIte, Nat.reduceLT, Int.reduceToNat, Int.reduceLE, Int.reduceEq, Int.reduceLT, Nat.reduceEqDiff, Nat.reduceAdd, zTy, xi]
          refine CW_region ?_
          simp only [zZ, reduceIte, Nat.reduceLT, Int.reduceToNat, Int.reduceLE, Int.reduceEq, Int.reduceLT, Nat.reduceEqDiff, Nat.reduceAdd, zTy, xi]
          refine ⟨_, rfl, [2], [0, 1, 5, 6, 7], rfl, ?_⟩
          simp only [zZ, reduceIte, Nat.reduceLT, Int.reduceToNat, Int.reduceLE, Int.reduceEq, Int.reduceLT, Nat.reduceEqDiff, Nat.reduceAdd, zG, sC_flat]
          exact ⟨n - 1, ⟨t + 1, t + 1, q ++ [p], _, by omega, by omega, by simp; omega, hun2, rfl, .inr ⟨by simp, by simp, rfl⟩⟩, by omega⟩
      · have hbc := of_decide_eq_false hbc
        have hun2 : R = q ++ pieces c (s.drop (t + 1)) ((s.drop a).take (t + 1 - a)) := by
          rw [hun, hdr, pieces, if_neg hbc, show t + 1 - a = (t - a) + 1 by omega, List.take_add_one, List.getElem?_drop, show a + (t - a) = t by omega, hb]; rfl
        simp only [zZ, reduceIte, Nat.reduceLT, Int.reduceToNat, Int.reduceLE, Int.reduceEq, Int.reduceLT, Nat.reduceEqDiff, Nat.reduceAdd]
        refine CW_region ?_
        simp only [zZ, reduceIte, Nat.reduceLT, Int.reduceToNat, Int.reduceLE, Int.reduceEq, Int.reduceLT, Nat.reduceEqDiff, Nat.reduceAdd, zTy, xi]
        rcases hV with ⟨rfl, rfl, rfl⟩ | ⟨hq0, rfl, rfl⟩
        · refine ⟨_, rfl, [], [0, 1, 5, 6, 7], rfl, ?_⟩
          simp only [zZ, reduceIte, Nat.reduceLT, Int.reduceToNat, Int.reduceLE, Int.reduceEq, Int.reduceLT, Nat.reduceEqDiff, Nat.reduceAdd, zG]
          exact ⟨n - 1, ⟨t + 1, a, [], _, by omega, by omega, by simp, hun2, rfl, .inl ⟨rfl, rfl⟩⟩, by omega⟩
        · refine ⟨_, rfl, [0], [0, 1, 5, 6, 7], rfl, ?_⟩
          simp only [zZ, reduceIte, Nat.reduceLT, Int.reduceToNat, Int.reduceLE, Int.reduceEq, Int.reduceLT, Nat.reduceEqDiff, Nat.reduceAdd, zG, sC_flat]
          exact ⟨n - 1, ⟨t + 1, a, q, _, by omega, by omega, by omega, hun2, rfl, .inr ⟨hq0, rfl, rfl⟩⟩, by omega⟩
    · simp only [zZ, reduceIte, Nat.reduceLT, Int.reduceToNat, Int.reduceLE, Int.reduceEq, Int.reduceLT, Nat.reduceEqDiff, Nat.reduceAdd]
      have htl : t = s.length := by have := of_decide_eq_false h; omega
      subst htl
      have hsl := fun get => slice_tail get s a hat
      have hR2 : R = q ++ [s.drop a] := by rw [hun, List.drop_length, pieces, List.take_of_length_le (by simp)]
      refine CW_seq (CW_region ?_)
      rcases hV with ⟨rfl, rfl, rfl⟩ | ⟨hq0, rfl, rfl⟩
      · have ha := sapp_nil m [some (some (.cells false 1 [.string (str (s.drop a))]))] 0 (s.drop a) rfl
        simp only [zZ, reduceIte, Nat.reduceLT, Int.reduceToNat, Int.reduceLE, Int.reduceEq, Int.reduceLT, Nat.reduceEqDiff, Nat.reduceAdd, zTy, hsl, new_str1, List.nil_append, List.length_nil, List.length_cons, ha]
        refine CW_ret ?_
        simp only [zZ, reduceIte, Nat.reduceLT, Int.reduceToNat, Int.reduceLE, Int.reduceEq, Int.reduceLT, Nat.reduceEqDiff, Nat.reduceAdd, zTy, bEnd, sAnswer, sAnswer.sRes]
        rw [hR2]
        exact told_slice (j := 1) rfl rfl (sC_flat _ _)
      · have ha := sapp m [some (some (.cells false 1 (sC q))), some (some (.cells false 1 [.string (str (s.drop a))]))] 1 0 q (s.drop a) rfl rfl (by omega)
        simp only [zZ, reduceIte, Nat.reduceLT, Int.reduceToNat, Int.reduceLE, Int.reduceEq, Int.reduceLT, Nat.reduceEqDiff, Nat.reduceAdd, zTy, hsl, new_str1, List.cons_append, List.nil_append, List.length_nil, List.length_cons, ha]
        refine CW_ret ?_
        simp only [zZ, reduceIte, Nat.reduceLT, Int.reduceToNat, Int.reduceLE, Int.reduceEq, Int.reduceLT, Nat.reduceEqDiff, Nat.reduceAdd, zTy, bEnd, sAnswer, sAnswer.sRes]
        rw [hR2]
        exact told_slice (j := 2) (by simp) rfl (sC_flat _ _)
end Go.Proofs.YthcleiegefhmdaaGreatDoor
namespace Go.Proofs.YthcleiegefhmdaaGreatDoor
open Go.RowKit Abs
theorem sig_zero (K : Nat) (keep : List Nat) : sig K keep K = match pos keep 0 with | some c => some (K + c) | none => none := sig_local K keep 0
set_option maxRecDepth 100000 in
set_option maxHeartbeats 2000000 in
theorem psplit_spec (s : List UInt8) (hs : s.length ≤ 999999) (m : Mem) :
    Abs.Spec Tryz.prog 76 [.string (str s)] m fun u M => u = .slice (some ⟨m.size, 0, none⟩) (pieces 47 s []).length (pieces 47 s []).length ∧ M = ext m [some (some (.cells false 1 (sC (pieces 47 s []))))] := by
  refine Abs.Spec.walkB Tryz.func76 (by rfl) _ Tryz.results76 _ Tryz.ntmps76 (by simp) m [] (ext_nil m).symm 0 rfl (.inl rfl) ?_
  intro hc _
  obtain ⟨R, hR⟩ : ∃ R, R = pieces 47 s [] := ⟨_, rfl⟩
  rw [← hR]
  refine CW_seq (CW_region ?_)
  simp only [zZ, reduceIte, Nat.reduceLT, Int.reduceToNat, Int.reduceLE, Int.reduceEq, Int.reduceLT, Nat.reduceEqDiff, Nat.reduceAdd, zTy]
  refine CW_seq (CW_region ?_)
  simp only [zZ, reduceIte, Nat.reduceLT, Int.reduceToNat, Int.reduceLE, Int.reduceEq, Int.reduceLT, Nat.reduceEqDiff, Nat.reduceAdd, zTy]
  refine CW_seq (CW_region ?_)
  simp only [zZ, reduceIte, Nat.reduceLT, Int.reduceToNat, Int.reduceLE, Int.reduceEq, Int.reduceLT, Nat.reduceEqDiff, Nat.reduceAdd, zTy]
  refine CW_seq (CW_seq (CW_region ?_))
  simp only [zZ, reduceIte, Nat.reduceLT, Int.reduceToNat, Int.reduceLE, Int.reduceEq, Int.reduceLT, Nat.reduceEqDiff, Nat.reduceAdd, zTy]
  refine CW_block (BW_loop hc (fun n f l => ∃ (t : Nat) (cur : List UInt8) (q : List (List UInt8)) (V : Value), t + n = s.length ∧ cur.length ≤ t ∧ q.length ≤ t ∧ R = q ++ pieces 47 (s.drop t) cur ∧
    f = [(0, .string (str s)), (3, V), (4, .string (str cur)), (5, .int .i64 (t : Nat))] ∧
    ((q = [] ∧ V = .slice none 0 0 ∧ l = []) ∨ (q ≠ [] ∧ V = .slice (some ⟨m.size + 0, 0, none⟩) q.length q.length ∧ l = [some (some (.cells false 1 (sC q)))]))) s.length ?_ ?_)
  · refine ⟨_, rfl, [], [0, 3, 4, 5], rfl, ?_⟩
    simp only [zZ, reduceIte, Nat.reduceLT, Int.reduceToNat, Int.reduceLE, Int.reduceEq, Int.reduceLT, Nat.reduceEqDiff, Nat.reduceAdd, zG]
    exact ⟨0, [], [], _, by omega, by simp, by simp, by rw [hR]; rfl, rfl, .inl ⟨rfl, rfl⟩⟩
  · rintro n f l ⟨t, cur, q, V, htn, hct, hqt, hun, rfl, hV⟩
    refine CW_seq (CW_seq (CW_region ?_))
    simp only [zZ, reduceIte, Nat.reduceLT, Int.reduceToNat, Int.reduceLE, Int.reduceEq, Int.reduceLT, Nat.reduceEqDiff, Nat.reduceAdd, zTy, bsize_str]
    refine CW_cond (decide ((t : Int) < (s.length : Int))) (by rfl) (fun h => CW_skip ?_) (fun h => CW_exit ?_)
    · simp only [zZ, reduceIte, Nat.reduceLT, Int.reduceToNat, Int.reduceLE, Int.reduceEq, Int.reduceLT, Nat.reduceEqDiff, Nat.reduceAdd]
      have htl : t < s.length := by have := of_decide_eq_true h; omega
      obtain ⟨b, hb⟩ : ∃ b, s[t]? = some b := ⟨_, List.getElem?_eq_getElem htl⟩
      have hdr := List.drop_eq_getElem_cons htl
      rw [(List.getElem?_eq_some_iff.1 hb).2] at hdr
      have ib := idx_str s t b hb
      have e47 : ((b.toNat : Int) == 47) = decide (b = 47) := u8_eql b 47
      have xi : IntKind.i64.wrap ((t : Int) + 1) = ((t + 1 : Nat) : Int) := by rw [wr (by omega) (by omega)]; omega
      have hsl := fun get => slice_mid get s t (t + 1) (by omega) (by omega)
      rw [hdr, Nat.add_sub_cancel_left] at hsl
      have hsl1 : ∀ get : Nat → Option Blk, gSlice Tryz.prog get 9 (.string (str s)) (some (.int .i64 (t : Nat))) (some (.int .i64 ((t + 1 : Nat) : Int))) = some (.string (str [b])) := hsl
      refine CW_seq (CW_block (CW_seq (CW_region ?_)))
      simp only [zZ, reduceIte, Nat.reduceLT, Int.reduceToNat, Int.reduceLE, Int.reduceEq, Int.reduceLT, Nat.reduceEqDiff, Nat.reduceAdd, zTy, ib, e47]
      refine CW_cond (decide (b = 47)) (by rfl) (fun hbc => CW_seq (CW_region ?_)) (fun hbc => CW_region ?_)
      · have hbc := of_decide_eq_true hbc
        have hun2 : R = (q ++ [cur]) ++ pieces 47 (s.drop (t + 1)) [] := by
          rw [hun, hdr, pieces, if_pos hbc]; simp
        rcases hV with ⟨rfl, rfl, rfl⟩ | ⟨hq0, rfl, rfl⟩
        · have ha := sapp_nil m [some (some (.cells false 1 [.string (str cur)]))] 0 cur rfl
          simp only [zZ, reduceIte, Nat.reduceLT, Int.reduceToNat, Int.reduceLE, Int.reduceEq, Int.reduceLT, Nat.reduceEqDiff, Nat.reduceAdd, zTy, new_str1, List.nil_append, List.length_nil, List.length_cons, ha]
          refine CW_region ?_
          simp only [zZ, reduceIte, Nat.reduceLT, Int.reduceToNat, Int.reduceLE, Int.reduceEq, Int.reduceLT, Nat.reduceEqDiff, Nat.reduceAdd, zTy, xi]
          refine CW_region ?_
          simp only [zZ, reduceIte, Nat.reduceLT, Int.reduceToNat, Int.reduceLE, Int.reduceEq, Int.reduceLT, Nat.reduceEqDiff, Nat.reduceAdd, zTy, xi]
          refine ⟨_, rfl, [1], [0, 3, 4, 5], rfl, ?_⟩
          simp only [zZ, reduceIte, Nat.reduceLT, Int.reduceToNat, Int.reduceLE, Int.reduceEq, Int.reduceLT, Nat.reduceEqDiff, Nat.reduceAdd, zG, sC_flat]
          exact ⟨n - 1, ⟨t + 1, [], [cur], _, by omega, by simp, by simp, hun2, rfl, .inr ⟨by simp, rfl, rfl⟩⟩, by omega⟩
        · have ha := sapp m [some (some (.cells false 1 (sC q))), some (some (.cells false 1 [.string (str cur)]))] 1 0 q cur rfl rfl (by omega)
          simp only [zZ, reduceIte, Nat.reduceLT, Int.reduceToNat, Int.reduceLE, Int.reduceEq, Int.reduceLT, Nat.reduceEqDiff, Nat.reduceAdd, zTy, new_str1, List.cons_append, List.nil_append, List.length_nil, List.length_cons, ha]
          refine CW_region ?_
          simp only [zZ, reduceIte, Nat.reduceLT, Int.reduceToNat, Int.reduceLE, Int.reduceEq, Int.reduceLT, Nat.reduceEqDiff, Nat.reduceAdd, zTy, xi]
          refine CW_region ?_
          simp only [zZ, reduceIte, Nat.reduceLT, Int.reduceToNat, Int.reduceLE, Int.reduceEq, Int.reduceLT, Nat.reduceEqDiff, Nat.reduceAdd, zTy, xi]
          refine ⟨_, rfl, [2], [0, 3, 4, 5], rfl, ?_⟩
          simp only [zZ, reduceIte, Nat.reduceLT, Int.reduceToNat, Int.reduceLE, Int.reduceEq, Int.reduceLT, Nat.reduceEqDiff, Nat.reduceAdd, zG, sC_flat]
          exact ⟨n - 1, ⟨t + 1, [], q ++ [cur], _, by omega, by simp, by simp; omega, hun2, rfl, .inr ⟨by simp, by simp, rfl⟩⟩, by omega⟩
      · have hbc := of_decide_eq_false hbc
        have hun2 : R = q ++ pieces 47 (s.drop (t + 1)) (cur ++ [b]) := by
          rw [hun, hdr, pieces, if_neg hbc]
        have hlen : ((cur.length : Int) + 1 ≤ 4611686018427387904) = True := eq_true (by omega)
        have hcat : ∀ x : Nat, cur.length + ([b] : List UInt8).length ≤ 4611686018427387904 := fun _ => by simp; omega
        simp only [zZ, reduceIte, Nat.reduceLT, Int.reduceToNat, Int.reduceLE, Int.reduceEq, Int.reduceLT, Nat.reduceEqDiff, Nat.reduceAdd, zTy, xi, hsl1, bsize_str, bcat_str]
        refine ⟨by omega, ?_⟩
        refine CW_region ?_
        simp only [zZ, reduceIte, Nat.reduceLT, Int.reduceToNat, Int.reduceLE, Int.reduceEq, Int.reduceLT, Nat.reduceEqDiff, Nat.reduceAdd, zTy, xi]
        rcases hV with ⟨rfl, rfl, rfl⟩ | ⟨hq0, rfl, rfl⟩
        · refine ⟨_, rfl, [], [0, 3, 4, 5], rfl, ?_⟩
          simp only [zZ, reduceIte, Nat.reduceLT, Int.reduceToNat, Int.reduceLE, Int.reduceEq, Int.reduceLT, Nat.reduceEqDiff, Nat.reduceAdd, zG]
          exact ⟨n - 1, ⟨t + 1, cur ++ [b], [], _, by omega, by simp; omega, by simp, hun2, rfl, .inl ⟨rfl, rfl⟩⟩, by omega⟩
        · refine ⟨_, rfl, [0], [0, 3, 4, 5], rfl, ?_⟩
          simp only [zZ, reduceIte, Nat.reduceLT, Int.reduceToNat, Int.reduceLE, Int.reduceEq, Int.reduceLT, Nat.reduceEqDiff, Nat.reduceAdd, zG, sC_flat]
          exact ⟨n - 1, ⟨t + 1, cur ++ [b], q, _, by omega, by simp; omega, by omega, hun2, rfl, .inr ⟨hq0, rfl, rfl⟩⟩, by omega⟩
    · simp only [zZ, reduceIte, Nat.reduceLT, Int.reduceToNat, Int.reduceLE, Int.reduceEq, Int.reduceLT, Nat.reduceEqDiff, Nat.reduceAdd]
      have htl : t = s.length := by have := of_decide_eq_false h; omega
      subst htl
      have hR2 : R = q ++ [cur] := by rw [hun, List.drop_length, pieces]
      refine CW_seq (CW_region ?_)
      rcases hV with ⟨rfl, rfl, rfl⟩ | ⟨hq0, rfl, rfl⟩
      · have ha := sapp_nil m [some (some (.cells false 1 [.string (str cur)]))] 0 cur rfl
        simp only [zZ, reduceIte, Nat.reduceLT, Int.reduceToNat, Int.reduceLE, Int.reduceEq, Int.reduceLT, Nat.reduceEqDiff, Nat.reduceAdd, zTy, new_str1, List.nil_append, List.length_nil, List.length_cons, ha]
        refine CW_ret ?_
        simp only [zZ, reduceIte, Nat.reduceLT, Int.reduceToNat, Int.reduceLE, Int.reduceEq, Int.reduceLT, Nat.reduceEqDiff, Nat.reduceAdd, zTy, bEnd, sAnswer, sAnswer.sRes]
        rw [hR2]
        exact told_slice (j := 1) rfl rfl (sC_flat _ _)
      · have ha := sapp m [some (some (.cells false 1 (sC q))), some (some (.cells false 1 [.string (str cur)]))] 1 0 q cur rfl rfl (by omega)
        simp only [zZ, reduceIte, Nat.reduceLT, Int.reduceToNat, Int.reduceLE, Int.reduceEq, Int.reduceLT, Nat.reduceEqDiff, Nat.reduceAdd, zTy, new_str1, List.cons_append, List.nil_append, List.length_nil, List.length_cons, ha]
        refine CW_ret ?_
        simp only [zZ, reduceIte, Nat.reduceLT, Int.reduceToNat, Int.reduceLE, Int.reduceEq, Int.reduceLT, Nat.reduceEqDiff, Nat.reduceAdd, zTy, bEnd, sAnswer, sAnswer.sRes]
        rw [hR2]
        exact told_slice (j := 2) (by simp) rfl (sC_flat _ _)
def badPart (s : List UInt8) : Bool := decide (s = []) || decide (s = [46]) || decide (s = [46, 46])
def mayV (p : List UInt8) : Bool := decide (pathV p = 0)
theorem mayV_eq (p : List UInt8) (R : Bool) (h : R = mayV p) : (p = [] ∨ 4096 < p.length → R = false) ∧ (¬ (p = [] ∨ 4096 < p.length) → R = (!decide (0 ∈ p) && !(pieces 47 p []).any badPart)) := by
  subst h
  unfold mayV pathV
  constructor
  · intro h
    rw [if_pos (by rcases h with h | h; exact .inl h; exact .inr (.inl h))]
    rfl
  · intro h
    by_cases h0 : 0 ∈ p
    · rw [if_pos (.inr (.inr (.inl h0))), decide_eq_true h0]; rfl
    · cases ha : (pieces 47 p []).any badPart
      · rw [if_neg (fun e => by rcases e with e | e | e | e; exact h (.inl e); exact h (.inr e); exact h0 e; change (pieces 47 p []).any badPart = true at e; rw [ha] at e; cases e), decide_eq_false h0]; rfl
      · rw [if_pos (.inr (.inr (.inr ha)))]; simp
set_option maxRecDepth 100000 in
set_option maxHeartbeats 2000000 in
theorem rmay_spec (s : List UInt8) (hs : s.length ≤ 999999) (m : Mem) :
    Abs.Spec Tryz.prog 63 [.string (str s)] m fun u M => u = .bool (mayV s) ∧ M = m := by
  refine Abs.Spec.walkB Tryz.func63 (by rfl) _ Tryz.results63 _ Tryz.ntmps63 (by simp) m [] (ext_nil m).symm 0 rfl (.inl rfl) ?_
  intro hc _
  obtain ⟨R, hR⟩ : ∃ R, R = mayV s := ⟨_, rfl⟩
  obtain ⟨hRa, hRb⟩ := mayV_eq s R hR
  rw [← hR]
  refine CW_seq (CW_region ?_)
  simp only [zZ, reduceIte, Nat.reduceLT, Int.reduceToNat, Int.reduceLE, Int.reduceEq, Int.reduceLT, Nat.reduceEqDiff, Nat.reduceAdd, zTy]
  refine CW_seq (CW_seq (CW_region ?_))
  have hne : s.length < 1 ↔ s = [] := ⟨fun h => List.eq_nil_of_length_eq_zero (by omega), fun h => by rw [h]; decide⟩
  cases c1 : decide ((s.length : Int) < 1)
  case' true =>
    simp only [zZ, reduceIte, Nat.reduceLT, Int.reduceToNat, Int.reduceLE, Int.reduceEq, Int.reduceLT, Nat.reduceEqDiff, Nat.reduceAdd, zTy, bsize_str, c1]
    refine CW_cond true (by rfl) (fun _ => CW_seq (CW_region ?_)) (fun h => by cases h)
    simp only [zZ, reduceIte, Nat.reduceLT, Int.reduceToNat, Int.reduceLE, Int.reduceEq, Int.reduceLT, Nat.reduceEqDiff, Nat.reduceAdd, zTy]
    refine CW_ret ?_
    simp only [zZ, reduceIte, Nat.reduceLT, Int.reduceToNat, Int.reduceLE, Int.reduceEq, Int.reduceLT, Nat.reduceEqDiff, Nat.reduceAdd, zTy, bEnd, sAnswer, sAnswer.sRes]
    have := of_decide_eq_true c1
    exact told_flat rfl (by rw [hRa (.inl (hne.1 (by omega)))])
  have h1 := of_decide_eq_false c1
  simp only [zZ, reduceIte, Nat.reduceLT, Int.reduceToNat, Int.reduceLE, Int.reduceEq, Int.reduceLT, Nat.reduceEqDiff, Nat.reduceAdd, zTy, bsize_str, c1]
  refine CW_cond (decide ((4096 : Int) < (s.length : Int))) (by rfl) (fun h => CW_seq (CW_region ?_)) (fun h => CW_skip ?_)
  · simp only [zZ, reduceIte, Nat.reduceLT, Int.reduceToNat, Int.reduceLE, Int.reduceEq, Int.reduceLT, Nat.reduceEqDiff, Nat.reduceAdd, zTy]
    refine CW_ret ?_
    simp only [zZ, reduceIte, Nat.reduceLT, Int.reduceToNat, Int.reduceLE, Int.reduceEq, Int.reduceLT, Nat.reduceEqDiff, Nat.reduceAdd, zTy, bEnd, sAnswer, sAnswer.sRes]
    have := of_decide_eq_true h
    exact told_flat rfl (by rw [hRa (.inr (by omega))])
  have h2 := of_decide_eq_false h
  replace hRb := hRb (by rintro (h | h); exact absurd (hne.2 h) (by omega); omega)
  clear hRa hR
  simp only [zZ, reduceIte, Nat.reduceLT, Int.reduceToNat, Int.reduceLE, Int.reduceEq, Int.reduceLT, Nat.reduceEqDiff, Nat.reduceAdd]
  refine BW_mid hc (fun f l => f = [(0, .string (str s))] ∧ l = [] ∧ ¬ 0 ∈ s) ?_ ?_
  · refine CW_seq (CW_region ?_)
    simp only [zZ, reduceIte, Nat.reduceLT, Int.reduceToNat, Int.reduceLE, Int.reduceEq, Int.reduceLT, Nat.reduceEqDiff, Nat.reduceAdd, zTy]
    refine CW_block (BW_loop hc (fun n f l => ∃ t : Nat, t + n = s.length ∧ f = [(0, .string (str s)), (3, .int .i64 (t : Nat))] ∧ l = [] ∧ ¬ 0 ∈ s.take t) s.length ?_ ?_)
    · refine ⟨_, rfl, [], [0, 3], rfl, ?_⟩
      simp only [zZ, reduceIte, Nat.reduceLT, Int.reduceToNat, Int.reduceLE, Int.reduceEq, Int.reduceLT, Nat.reduceEqDiff, Nat.reduceAdd, zG]
      exact ⟨0, by omega, rfl, by simp⟩
    · rintro n f l ⟨t, htn, rfl, rfl, hno⟩
      refine CW_seq (CW_seq (CW_region ?_))
      simp only [zZ, reduceIte, Nat.reduceLT, Int.reduceToNat, Int.reduceLE, Int.reduceEq, Int.reduceLT, Nat.reduceEqDiff, Nat.reduceAdd, zTy, bsize_str]
      refine CW_cond (decide ((t : Int) < (s.length : Int))) (by rfl) (fun h => CW_skip ?_) (fun h => CW_exit ?_)
      · simp only [zZ, reduceIte, Nat.reduceLT, Int.reduceToNat, Int.reduceLE, Int.reduceEq, Int.reduceLT, Nat.reduceEqDiff, Nat.reduceAdd]
        have htl : t < s.length := by have := of_decide_eq_true h; omega
        obtain ⟨b, hb⟩ : ∃ b, s[t]? = some b := ⟨_, List.getElem?_eq_getElem htl⟩
        have ib := idx_str s t b hb
        have e0 : ((b.toNat : Int) == 0) = decide (b = 0) := u8_eql b 0
        have xi : IntKind.i64.wrap ((t : Int) + 1) = ((t + 1 : Nat) : Int) := by rw [wr (by omega) (by omega)]; omega
        refine CW_seq (CW_block (CW_seq (CW_region ?_)))
        simp only [zZ, reduceIte, Nat.reduceLT, Int.reduceToNat, Int.reduceLE, Int.reduceEq, Int.reduceLT, Nat.reduceEqDiff, Nat.reduceAdd, zTy, ib, e0]
        refine CW_cond (decide (b = 0)) (by rfl) (fun hbc => CW_seq (CW_region ?_)) (fun hbc => CW_skip ?_)
        · simp only [zZ, reduceIte, Nat.reduceLT, Int.reduceToNat, Int.reduceLE, Int.reduceEq, Int.reduceLT, Nat.reduceEqDiff, Nat.reduceAdd, zTy]
          refine CW_ret ?_
          simp only [zZ, reduceIte, Nat.reduceLT, Int.reduceToNat, Int.reduceLE, Int.reduceEq, Int.reduceLT, Nat.reduceEqDiff, Nat.reduceAdd, zTy, bEnd, sAnswer, sAnswer.sRes]
          have : 0 ∈ s := by have := List.mem_of_getElem? hb; rwa [of_decide_eq_true hbc] at this
          exact told_flat rfl (by rw [hRb, decide_eq_true this]; rfl)
        · simp only [zZ, reduceIte, Nat.reduceLT, Int.reduceToNat, Int.reduceLE, Int.reduceEq, Int.reduceLT, Nat.reduceEqDiff, Nat.reduceAdd]
          refine CW_region ?_
          simp only [zZ, reduceIte, Nat.reduceLT, Int.reduceToNat, Int.reduceLE, Int.reduceEq, Int.reduceLT, Nat.reduceEqDiff, Nat.reduceAdd, zTy, xi]
          refine ⟨_, rfl, [], [0, 3], rfl, ?_⟩
          simp only [zZ, reduceIte, Nat.reduceLT, Int.reduceToNat, Int.reduceLE, Int.reduceEq, Int.reduceLT, Nat.reduceEqDiff, Nat.reduceAdd, zG]
          exact ⟨n - 1, ⟨t + 1, by omega, rfl, by rw [List.take_add_one, hb]; simp only [Option.toList, List.mem_append, List.mem_singleton]; rintro (h | h); exact hno h; exact of_decide_eq_false hbc h.symm⟩, by omega⟩
      · simp only [zZ, reduceIte, Nat.reduceLT, Int.reduceToNat, Int.reduceLE, Int.reduceEq, Int.reduceLT, Nat.reduceEqDiff, Nat.reduceAdd]
        have htl : t = s.length := by have := of_decide_eq_false h; omega
        refine ⟨_, rfl, [], [0], rfl, ?_⟩
        simp only [zZ, reduceIte, Nat.reduceLT, Int.reduceToNat, Int.reduceLE, Int.reduceEq, Int.reduceLT, Nat.reduceEqDiff, Nat.reduceAdd, zG]
        rw [htl, List.take_length] at hno
        exact hno
  · rintro f l ⟨rfl, rfl, hno⟩
    obtain ⟨ps, hps⟩ : ∃ ps, ps = pieces 47 s [] := ⟨_, rfl⟩
    have hpl : ps.length ≤ 1000000 := by rw [hps, pieces_len]; have := List.count_le_length (l := s) (a := 47); omega
    rw [decide_eq_false hno, ← hps] at hRb
    replace hRb : R = !ps.any badPart := hRb
    refine CW_seq (CW_region ?_)
    simp only [zZ, reduceIte, Nat.reduceLT, Int.reduceToNat, Int.reduceLE, Int.reduceEq, Int.reduceLT, Nat.reduceEqDiff, Nat.reduceAdd, zTy]
    refine ⟨by kernel_rfl, _, psplit_spec s hs _, ?_⟩
    rw [← hps]
    rintro _ _ ⟨rfl, rfl⟩
    simp only [zZ, reduceIte, Nat.reduceLT, Int.reduceToNat, Int.reduceLE, Int.reduceEq, Int.reduceLT, Nat.reduceEqDiff, Nat.reduceAdd, zTy, ext_nil]
    refine BW_mid hc (fun f l => f = [] ∧ l = [] ∧ ps.any badPart = false) ?_ ?_
    · refine CW_seq (CW_region ?_)
      simp only [zZ, reduceIte, Nat.reduceLT, Int.reduceToNat, Int.reduceLE, Int.reduceEq, Int.reduceLT, Nat.reduceEqDiff, Nat.reduceAdd, zTy]
      refine CW_block (BW_loop hc (fun n f l => ∃ t : Nat, t + n = ps.length ∧ f = [(4, .slice (some ⟨m.size + 0, 0, none⟩) ps.length ps.length), (5, .int .i64 (t : Nat))] ∧ l = [some (some (.cells false 1 (sC ps)))] ∧ (ps.take t).any badPart = false) ps.length ?_ ?_)
      · refine ⟨_, rfl, [0], [4, 5], rfl, ?_⟩
        simp only [zZ, reduceIte, Nat.reduceLT, Int.reduceToNat, Int.reduceLE, Int.reduceEq, Int.reduceLT, Nat.reduceEqDiff, Nat.reduceAdd, zG, sC_flat, sig_zero]
        exact ⟨0, by omega, rfl, rfl⟩
      · rintro n f l ⟨t, htn, rfl, rfl, hno⟩
        refine CW_seq (CW_seq (CW_region ?_))
        simp only [zZ, reduceIte, Nat.reduceLT, Int.reduceToNat, Int.reduceLE, Int.reduceEq, Int.reduceLT, Nat.reduceEqDiff, Nat.reduceAdd, zTy]
        refine CW_cond (decide ((t : Int) < (ps.length : Int))) (by rfl) (fun h => CW_skip ?_) (fun h => CW_exit ?_)
        · simp only [zZ, reduceIte, Nat.reduceLT, Int.reduceToNat, Int.reduceLE, Int.reduceEq, Int.reduceLT, Nat.reduceEqDiff, Nat.reduceAdd]
          have htl : t < ps.length := by have := of_decide_eq_true h; omega
          have k0 : (0 : Int) ≤ (t : Int) := by omega
          have k1 : (t : Int) < (ps.length : Int) := by omega
          obtain ⟨x, hx⟩ : ∃ x, ps[t]? = some x := ⟨_, List.getElem?_eq_getElem htl⟩
          have hx2 := get_str ps t x hx
          have xi : IntKind.i64.wrap ((t : Int) + 1) = ((t + 1 : Nat) : Int) := by rw [wr (by omega) (by omega)]; omega
          have b0 : beqB (str x) ⟨#[]⟩ = decide (x = []) := beqB_str x []
          have b1 : beqB (str x) ⟨#[46]⟩ = decide (x = [46]) := beqB_str x [46]
          have b2 : beqB (str x) ⟨#[46, 46]⟩ = decide (x = [46, 46]) := beqB_str x [46, 46]
          have hany : ∀ z, badPart x = z → (ps.take (t + 1)).any badPart = z := fun z hz => by rw [List.take_add_one, hx, List.any_append, hno]; simp [hz]
          have hbad : badPart x = (decide (x = []) || decide (x = [46]) || decide (x = [46, 46])) := rfl
          refine CW_seq (CW_block (CW_seq (CW_region ?_)))
          cases c0 : decide (x = []) <;> cases c1 : decide (x = [46]) <;> cases c2 : decide (x = [46, 46]) <;> rw [c0, c1, c2] at hbad <;> simp only [zZ, reduceIte, Nat.reduceLT, Int.reduceToNat, Int.reduceLE, Int.reduceEq, Int.reduceLT, Nat.reduceEqDiff, Nat.reduceAdd, zTy, k0, k1, and_self, hx2, b0, b1, b2, c0, c1, c2]
          case' false.false.false =>
            refine CW_cond false (by rfl) (fun h => by cases h) (fun _ => CW_skip ?_)
            simp only [zZ, reduceIte, Nat.reduceLT, Int.reduceToNat, Int.reduceLE, Int.reduceEq, Int.reduceLT, Nat.reduceEqDiff, Nat.reduceAdd]
            refine CW_region ?_
            simp only [zZ, reduceIte, Nat.reduceLT, Int.reduceToNat, Int.reduceLE, Int.reduceEq, Int.reduceLT, Nat.reduceEqDiff, Nat.reduceAdd, zTy, xi]
            refine ⟨_, rfl, [0], [4, 5], rfl, ?_⟩
            simp only [zZ, reduceIte, Nat.reduceLT, Int.reduceToNat, Int.reduceLE, Int.reduceEq, Int.reduceLT, Nat.reduceEqDiff, Nat.reduceAdd, zG, sC_flat]
            exact ⟨n - 1, ⟨t + 1, by omega, rfl, hany _ hbad⟩, by omega⟩
          all_goals
            refine CW_cond true (by rfl) (fun _ => CW_seq (CW_region ?_)) (fun h => by cases h)
            simp only [zZ, reduceIte, Nat.reduceLT, Int.reduceToNat, Int.reduceLE, Int.reduceEq, Int.reduceLT, Nat.reduceEqDiff, Nat.reduceAdd, zTy]
            refine CW_ret ?_
            simp only [zZ, reduceIte, Nat.reduceLT, Int.reduceToNat, Int.reduceLE, Int.reduceEq, Int.reduceLT, Nat.reduceEqDiff, Nat.reduceAdd, zTy, bEnd, sAnswer, sAnswer.sRes]
            refine told_flat rfl ?_
            rw [hRb, List.any_eq_true.2 ⟨x, List.mem_of_getElem? hx, hbad⟩]; rfl
        · simp only [zZ, reduceIte, Nat.reduceLT, Int.reduceToNat, Int.reduceLE, Int.reduceEq, Int.reduceLT, Nat.reduceEqDiff, Nat.reduceAdd]
          have htl : t = ps.length := by have := of_decide_eq_false h; omega
          refine ⟨_, rfl, [], [], rfl, ?_⟩
          simp only [zZ, reduceIte, Nat.reduceLT, Int.reduceToNat, Int.reduceLE, Int.reduceEq, Int.reduceLT, Nat.reduceEqDiff, Nat.reduceAdd, zG]
          rw [htl, List.take_length] at hno
          exact hno
    · rintro f l ⟨rfl, rfl, hno⟩
      refine CW_seq (CW_region ?_)
      simp only [zZ, reduceIte, Nat.reduceLT, Int.reduceToNat, Int.reduceLE, Int.reduceEq, Int.reduceLT, Nat.reduceEqDiff, Nat.reduceAdd, zTy]
      refine CW_ret ?_
      simp only [zZ, reduceIte, Nat.reduceLT, Int.reduceToNat, Int.reduceLE, Int.reduceEq, Int.reduceLT, Nat.reduceEqDiff, Nat.reduceAdd, zTy, bEnd, sAnswer, sAnswer.sRes]
      exact told_flat rfl (by rw [hRb, hno]; rfl)
end Go.Proofs.YthcleiegefhmdaaGreatDoor
namespace Go.Proofs.YthcleiegefhmdaaGreatDoor
open Go.RowKit Abs
set_option maxRecDepth 100000 in
set_option maxHeartbeats 2000000 in
theorem runder_spec (p f : List UInt8) (m : Mem) :
    Abs.Spec Tryz.prog 64 [.string (str p), .string (str f)] m fun u M => u = .bool (underV p f) ∧ M = m := by
  refine Abs.Spec.walkB Tryz.func64 (by rfl) _ Tryz.results64 _ Tryz.ntmps64 (by simp) m [] (ext_nil m).symm 0 rfl (.inl rfl) ?_
  intro hc _
  refine CW_seq (CW_region ?_)
  simp only [zZ, reduceIte, Nat.reduceLT, Int.reduceToNat, Int.reduceLE, Int.reduceEq, Int.reduceLT, Nat.reduceEqDiff, Nat.reduceAdd, Tryz.underlying9, Tryz.underlying5, Tryz.underlying3, Tryz.underlying4]
  refine CW_seq (CW_region ?_)
  cases c1 : decide ((f.length : Int) < (p.length : Int))
  · simp only [zZ, reduceIte, Nat.reduceLT, Int.reduceToNat, Int.reduceLE, Int.reduceEq, Int.reduceLT, Nat.reduceEqDiff, Nat.reduceAdd, Tryz.underlying9, Tryz.underlying5, Tryz.underlying3, Tryz.underlying4, bsize_str, c1]
    refine CW_ret ?_
    simp only [zZ, reduceIte, Nat.reduceLT, Int.reduceToNat, Int.reduceLE, Int.reduceEq, Int.reduceLT, Nat.reduceEqDiff, Nat.reduceAdd, Tryz.underlying9, Tryz.underlying5, Tryz.underlying3, Tryz.underlying4, bEnd, sAnswer, sAnswer.sRes]
    refine told_flat rfl ?_
    have h := of_decide_eq_false c1
    unfold underV
    rw [decide_eq_false (by omega)]
    rfl
  · have h := of_decide_eq_true c1
    have i0 : aIndex Tryz.prog 9 (.string (str p)) (.int .i64 (f.length : Nat)) = some (.int .u8 ((p.getD f.length 0).toNat : Int)) := index_str (str p) _ f.length rfl (by rw [str_size]; omega)
    have e0 : (((p.getD f.length 0).toNat : Int) == 47) = decide (p.getD f.length 0 = 47) := u8_eql _ 47
    have e1 : ∀ get : Nat → Option Blk, gSlice Tryz.prog get 9 (.string (str p)) none (some (.int .i64 (f.length : Nat))) = some (.string (bsub (str p) 0 ((f.length : Nat) : Int).toNat)) := fun get => slice_str (str p) _ (by omega) (by rw [bsize_str]; omega)
    cases c2 : decide (p.take f.length = f)
    · simp only [zZ, reduceIte, Nat.reduceLT, Int.reduceToNat, Int.reduceLE, Int.reduceEq, Int.reduceLT, Nat.reduceEqDiff, Nat.reduceAdd, Tryz.underlying9, Tryz.underlying5, Tryz.underlying3, Tryz.underlying4, bsize_str, c1, e1, Int.toNat_natCast, bsub_str, beqB_str, c2]
      refine CW_ret ?_
      simp only [zZ, reduceIte, Nat.reduceLT, Int.reduceToNat, Int.reduceLE, Int.reduceEq, Int.reduceLT, Nat.reduceEqDiff, Nat.reduceAdd, Tryz.underlying9, Tryz.underlying5, Tryz.underlying3, Tryz.underlying4, bEnd, sAnswer, sAnswer.sRes]
      refine told_flat rfl ?_
      unfold underV prefV
      rw [c2, Bool.and_false]
    · simp only [zZ, reduceIte, Nat.reduceLT, Int.reduceToNat, Int.reduceLE, Int.reduceEq, Int.reduceLT, Nat.reduceEqDiff, Nat.reduceAdd, Tryz.underlying9, Tryz.underlying5, Tryz.underlying3, Tryz.underlying4, bsize_str, c1, e1, Int.toNat_natCast, bsub_str, beqB_str, c2, i0, e0]
      refine CW_ret ?_
      simp only [zZ, reduceIte, Nat.reduceLT, Int.reduceToNat, Int.reduceLE, Int.reduceEq, Int.reduceLT, Nat.reduceEqDiff, Nat.reduceAdd, Tryz.underlying9, Tryz.underlying5, Tryz.underlying3, Tryz.underlying4, bEnd, sAnswer, sAnswer.sRes]
      refine told_flat rfl ?_
      unfold underV prefV
      rw [c2, decide_eq_true (show f.length < p.length by omega), Bool.true_and, Bool.and_true]
end Go.Proofs.YthcleiegefhmdaaGreatDoor
namespace Go.Proofs.YthcleiegefhmdaaGreatDoor
open Go.RowKit Abs
theorem path5 (p : List UInt8) : pathV p = 0 ∨ pathV p = 5 := by unfold pathV; split <;> simp
def clashAt (files : List FileL) (i k : Nat) : Bool := match files[i]?, files[k]? with
  | some a, some b => !decide (i = k) && (decide (a.1 = b.1) || underV a.1 b.1)
  | _, _ => false
def clashRow (files : List FileL) (i : Nat) (n : Nat) : Bool := (List.range n).any (clashAt files i)
def clashAny (files : List FileL) (n : Nat) : Bool := (List.range n).any fun i => clashRow files i files.length
theorem clashRow_succ (files : List FileL) (i n : Nat) : clashRow files i (n + 1) = (clashRow files i n || clashAt files i n) := by
  unfold clashRow; rw [List.range_succ, List.any_append]; simp
theorem clashAny_succ (files : List FileL) (n : Nat) : clashAny files (n + 1) = (clashAny files n || clashRow files n files.length) := by
  unfold clashAny; rw [List.range_succ, List.any_append]; simp
theorem clashes_iff : ∀ (l : List FileL), clashes l = true ↔ ∃ (i k : Nat) (a b : FileL), i < k ∧ l[i]? = some a ∧ l[k]? = some b ∧ (clashV1 a b || clashV1 b a) = true
  | [] => by simp [clashes]
  | x :: r => by
    rw [clashes, Bool.or_eq_true, clashes_iff r]
    constructor
    · rintro (h | ⟨i, k, a, b, h1, h2, h3, h4⟩)
      · rw [List.any_eq_true] at h
        obtain ⟨b, hb, h⟩ := h
        obtain ⟨k, hk⟩ := List.getElem?_of_mem hb
        exact ⟨0, k + 1, x, b, by omega, rfl, by simpa using hk, h⟩
      · exact ⟨i + 1, k + 1, a, b, by omega, by simpa using h2, by simpa using h3, h4⟩
    · rintro ⟨i, k, a, b, h1, h2, h3, h4⟩
      obtain ⟨k, rfl⟩ : ∃ j, k = j + 1 := ⟨k - 1, by omega⟩
      have h3 : r[k]? = some b := by simpa using h3
      cases i with
      | zero =>
        have h2 : x = a := by simpa using h2
        subst h2
        exact .inl (List.any_eq_true.2 ⟨b, List.mem_of_getElem? h3, h4⟩)
      | succ i => exact .inr ⟨i, k, a, b, by omega, by simpa using h2, h3, h4⟩
theorem clashAny_iff (l : List FileL) : clashAny l l.length = true ↔ ∃ (i k : Nat) (a b : FileL), i ≠ k ∧ l[i]? = some a ∧ l[k]? = some b ∧ (decide (a.1 = b.1) || underV a.1 b.1) = true := by
  unfold clashAny clashRow
  simp only [List.any_eq_true, List.mem_range]
  constructor
  · rintro ⟨i, hi, k, hk, h⟩
    unfold clashAt at h
    cases ha : l[i]? with
    | none => rw [ha] at h; cases h
    | some a =>
      cases hb : l[k]? with
      | none => rw [ha, hb] at h; cases h
      | some b =>
        rw [ha, hb] at h
        simp only [Bool.and_eq_true] at h
        exact ⟨i, k, a, b, by simpa using h.1, ha, hb, h.2⟩
  · rintro ⟨i, k, a, b, h1, h2, h3, h4⟩
    refine ⟨i, (List.getElem?_eq_some_iff.1 h2).1, k, (List.getElem?_eq_some_iff.1 h3).1, ?_⟩
    unfold clashAt
    rw [h2, h3]
    simp only [h4, Bool.and_true]
    simpa using h1
theorem clash_two (l : List FileL) : clashAny l l.length = clashes l := by
  rw [Bool.eq_iff_iff, clashAny_iff, clashes_iff]
  constructor
  · rintro ⟨i, k, a, b, h1, h2, h3, h4⟩
    rcases Nat.lt_or_gt_of_ne h1 with h | h
    · refine ⟨i, k, a, b, h, h2, h3, ?_⟩
      unfold clashV1
      simp only [Bool.or_eq_true, decide_eq_true_eq] at h4 ⊢
      rcases h4 with h4 | h4
      · exact .inl (.inl h4)
      · exact .inr (.inr h4)
    · refine ⟨k, i, b, a, h, h3, h2, ?_⟩
      unfold clashV1
      simp only [Bool.or_eq_true, decide_eq_true_eq] at h4 ⊢
      rcases h4 with h4 | h4
      · exact .inl (.inl h4.symm)
      · exact .inl (.inr h4)
  · rintro ⟨i, k, a, b, h1, h2, h3, h4⟩
    unfold clashV1 at h4
    simp only [Bool.or_eq_true, decide_eq_true_eq] at h4
    rcases h4 with (h4 | h4) | (h4 | h4)
    · exact ⟨i, k, a, b, by omega, h2, h3, by simp [h4]⟩
    · exact ⟨k, i, b, a, by omega, h3, h2, by simp [h4]⟩
    · exact ⟨i, k, a, b, by omega, h2, h3, by simp [h4]⟩
    · exact ⟨i, k, a, b, by omega, h2, h3, by simp [h4]⟩
set_option maxRecDepth 100000 in
set_option maxHeartbeats 2000000 in
theorem rfcheck_spec (files : List FileL) (a : Option Addr) (cap : Nat) (m : Mem) (hF : Rd m 2 (.slice a files.length cap) files.length (files.flatMap fileC)) (hs : ∀ f ∈ files, f.1.length ≤ 999999) (hl : files.length ≤ 1000000) :
    Abs.Spec Tryz.prog 48 [.slice a files.length cap] m fun u M => u = .int .i64 (checkV files) ∧ M = m := by
  obtain ⟨R, hR⟩ : ∃ R, R = checkV files := ⟨_, rfl⟩
  rw [← hR]
  refine Abs.Spec.walkB Tryz.func48 (by rfl) _ Tryz.results48 _ Tryz.ntmps48 (by simp) m [] (ext_nil m).symm 0 rfl (.inl rfl) ?_
  intro hc hx
  replace hx := hx rfl
  have fp : ∀ keep j, ren (sig m.size keep) j (.slice a files.length cap) = some (.slice a files.length cap) := Cl.fix (hx _ (by simp))
  refine CW_seq (CW_region ?_)
  simp only [zZ, reduceIte, Nat.reduceLT, Int.reduceToNat, Int.reduceLE, Int.reduceEq, Int.reduceLT, Nat.reduceEqDiff, Nat.reduceAdd, zTy]
  refine CW_seq (CW_seq (CW_region ?_))
  simp only [zZ, reduceIte, Nat.reduceLT, Int.reduceToNat, Int.reduceLE, Int.reduceEq, Int.reduceLT, Nat.reduceEqDiff, Nat.reduceAdd, zTy]
  refine CW_cond (decide ((64 : Int) < (files.length : Int))) (by rfl) (fun h => CW_seq (CW_region ?_)) (fun h => CW_skip ?_)
  · simp only [zZ, reduceIte, Nat.reduceLT, Int.reduceToNat, Int.reduceLE, Int.reduceEq, Int.reduceLT, Nat.reduceEqDiff, Nat.reduceAdd, zTy]
    refine CW_ret ?_
    simp only [zZ, reduceIte, Nat.reduceLT, Int.reduceToNat, Int.reduceLE, Int.reduceEq, Int.reduceLT, Nat.reduceEqDiff, Nat.reduceAdd, zTy, bEnd, sAnswer, sAnswer.sRes]
    have := of_decide_eq_true h
    exact told_flat rfl (by rw [hR, checkV, if_pos (by omega)])
  have h64 := of_decide_eq_false h
  have hR1 : R = match firstBad files with | some e => e | none => if clashes files then 6 else 0 := by rw [hR, checkV, if_neg (by omega)]; rfl
  simp only [zZ, reduceIte, Nat.reduceLT, Int.reduceToNat, Int.reduceLE, Int.reduceEq, Int.reduceLT, Nat.reduceEqDiff, Nat.reduceAdd]
  refine BW_mid hc (fun f l => f = [(0, .slice a files.length cap)] ∧ l = [] ∧ firstBad files = none) ?_ ?_
  · refine CW_seq (CW_region ?_)
    simp only [zZ, reduceIte, Nat.reduceLT, Int.reduceToNat, Int.reduceLE, Int.reduceEq, Int.reduceLT, Nat.reduceEqDiff, Nat.reduceAdd, zTy]
    refine CW_block (BW_loop hc (fun n f l => ∃ t : Nat, t + n = files.length ∧ f = [(0, .slice a files.length cap), (3, .int .i64 (t : Nat))] ∧
      l = [] ∧ firstBad (files.drop t) = firstBad files) files.length ?_ ?_)
    · refine ⟨_, rfl, [], [0, 3], rfl, ?_⟩
      simp only [zZ, reduceIte, Nat.reduceLT, Int.reduceToNat, Int.reduceLE, Int.reduceEq, Int.reduceLT, Nat.reduceEqDiff, Nat.reduceAdd, zG, fp]
      exact ⟨0, by omega, rfl, rfl⟩
    · rintro n f l ⟨t, htn, rfl, rfl, hfb⟩
      refine CW_seq (CW_seq (CW_region ?_))
      simp only [zZ, reduceIte, Nat.reduceLT, Int.reduceToNat, Int.reduceLE, Int.reduceEq, Int.reduceLT, Nat.reduceEqDiff, Nat.reduceAdd, zTy]
      refine CW_cond (decide ((t : Int) < (files.length : Int))) (by rfl) (fun h => CW_skip ?_) (fun h => CW_exit ?_)
      · simp only [zZ, reduceIte, Nat.reduceLT, Int.reduceToNat, Int.reduceLE, Int.reduceEq, Int.reduceLT, Nat.reduceEqDiff, Nat.reduceAdd]
        have htl : t < files.length := by have := of_decide_eq_true h; omega
        have h0 : (0 : Int) ≤ (t : Int) := by omega
        have h1 : (t : Int) < (files.length : Int) := by omega
        obtain ⟨g, ro, hpa, hgp⟩ := hF.at (by omega)
        have hg : ∀ l, (ext m l).get g = some (.cells ro 2 (files.flatMap fileC)) := fun l => ext_get_old l hgp
        have sg : ∀ keep, sig m.size keep g = some g := fun keep => sig_old keep (Mem.get_lt hgp)
        obtain ⟨A, hA⟩ : ∃ A, files[t]? = some A := ⟨_, List.getElem?_eq_getElem htl⟩
        have c0 : (files.flatMap fileC)[t * 2]? = some (.string (str A.1)) := flatMap_get (fun a _ => fileC_len a) hA (o := 0) (by decide)
        have c1 : (files.flatMap fileC)[t * 2 + 1]? = some (.string (str A.2)) := flatMap_get (fun a _ => fileC_len a) hA (o := 1) (by decide)
        have hAs := hs A (List.mem_of_getElem? hA)
        have hfb2 : firstBad files = if pathV A.1 ≠ 0 then some (pathV A.1) else if 1048576 < A.2.length then some 3 else firstBad (files.drop (t + 1)) := by rw [← hfb, drop_get hA, firstBad]
        subst hpa
        have hmay : mayV A.1 = decide (pathV A.1 = 0) := rfl
        refine CW_seq (CW_block (CW_seq (CW_seq (CW_region ?_))))
        simp only [zZ, reduceIte, Nat.reduceLT, Int.reduceToNat, Int.reduceLE, Int.reduceEq, Int.reduceLT, Nat.reduceEqDiff, Nat.reduceAdd, zTy, h0, h1, and_self, hg, c0]
        refine ⟨by kernel_rfl, _, rmay_spec A.1 (by omega) _, ?_⟩
        rintro _ _ ⟨rfl, rfl⟩
        simp only [zZ, reduceIte, Nat.reduceLT, Int.reduceToNat, Int.reduceLE, Int.reduceEq, Int.reduceLT, Nat.reduceEqDiff, Nat.reduceAdd, zTy]
        refine CW_cond (!mayV A.1) (by rfl) (fun hb => CW_seq (CW_region ?_)) (fun hb => CW_skip ?_)
        · simp only [zZ, reduceIte, Nat.reduceLT, Int.reduceToNat, Int.reduceLE, Int.reduceEq, Int.reduceLT, Nat.reduceEqDiff, Nat.reduceAdd, zTy]
          refine CW_ret ?_
          simp only [zZ, reduceIte, Nat.reduceLT, Int.reduceToNat, Int.reduceLE, Int.reduceEq, Int.reduceLT, Nat.reduceEqDiff, Nat.reduceAdd, zTy, bEnd, sAnswer, sAnswer.sRes]
          have hne : pathV A.1 ≠ 0 := by rw [hmay] at hb; simpa using hb
          have h5 := (path5 A.1).resolve_left hne
          exact told_flat rfl (by rw [hR1, hfb2, if_pos hne, h5])
        · have hz : ¬ pathV A.1 ≠ 0 := by rw [hmay] at hb; simpa using hb
          simp only [zZ, reduceIte, Nat.reduceLT, Int.reduceToNat, Int.reduceLE, Int.reduceEq, Int.reduceLT, Nat.reduceEqDiff, Nat.reduceAdd]
          refine CW_seq (CW_region ?_)
          simp only [zZ, reduceIte, Nat.reduceLT, Int.reduceToNat, Int.reduceLE, Int.reduceEq, Int.reduceLT, Nat.reduceEqDiff, Nat.reduceAdd, zTy, h0, h1, and_self, hg, c1, bsize_str]
          refine CW_cond (decide ((1048576 : Int) < (A.2.length : Int))) (by rfl) (fun hd => CW_seq (CW_region ?_)) (fun hd => CW_skip ?_)
          · simp only [zZ, reduceIte, Nat.reduceLT, Int.reduceToNat, Int.reduceLE, Int.reduceEq, Int.reduceLT, Nat.reduceEqDiff, Nat.reduceAdd, zTy]
            refine CW_ret ?_
            simp only [zZ, reduceIte, Nat.reduceLT, Int.reduceToNat, Int.reduceLE, Int.reduceEq, Int.reduceLT, Nat.reduceEqDiff, Nat.reduceAdd, zTy, bEnd, sAnswer, sAnswer.sRes]
            have := of_decide_eq_true hd
            exact told_flat rfl (by rw [hR1, hfb2, if_neg hz, if_pos (by omega)])
          · simp only [zZ, reduceIte, Nat.reduceLT, Int.reduceToNat, Int.reduceLE, Int.reduceEq, Int.reduceLT, Nat.reduceEqDiff, Nat.reduceAdd]
            have := of_decide_eq_false hd
            refine CW_region ?_
            have xi : IntKind.i64.wrap ((t : Int) + 1) = ((t + 1 : Nat) : Int) := by rw [wr (by omega) (by omega)]; omega
            simp only [zZ, reduceIte, Nat.reduceLT, Int.reduceToNat, Int.reduceLE, Int.reduceEq, Int.reduceLT, Nat.reduceEqDiff, Nat.reduceAdd, xi]
            refine ⟨_, rfl, [], [0, 3], rfl, ?_⟩
            simp only [zZ, reduceIte, Nat.reduceLT, Int.reduceToNat, Int.reduceLE, Int.reduceEq, Int.reduceLT, Nat.reduceEqDiff, Nat.reduceAdd, zG, sg]
            exact ⟨n - 1, ⟨t + 1, by omega, rfl, by rw [hfb2, if_neg hz, if_neg (by omega)]⟩, by omega⟩
      · simp only [zZ, reduceIte, Nat.reduceLT, Int.reduceToNat, Int.reduceLE, Int.reduceEq, Int.reduceLT, Nat.reduceEqDiff, Nat.reduceAdd]
        have htl : t = files.length := by have := of_decide_eq_false h; omega
        refine ⟨_, rfl, [], [0], rfl, ?_⟩
        simp only [zZ, reduceIte, Nat.reduceLT, Int.reduceToNat, Int.reduceLE, Int.reduceEq, Int.reduceLT, Nat.reduceEqDiff, Nat.reduceAdd, zG, fp]
        rw [← hfb, htl, List.drop_length]; rfl
  · rintro f l ⟨rfl, rfl, hfb⟩
    have hR2 : R = if clashAny files files.length then 6 else 0 := by rw [hR1, hfb, clash_two]
    have hhit : ∀ i k, i < files.length → k < files.length → clashAt files i k = true → R = 6 := fun i k hi hk h => by
      rw [hR2, if_pos]
      unfold clashAny clashRow
      exact List.any_eq_true.2 ⟨i, List.mem_range.2 hi, List.any_eq_true.2 ⟨k, List.mem_range.2 hk, h⟩⟩
    refine BW_mid hc (fun f l => f = [] ∧ l = [] ∧ clashAny files files.length = false) ?_ ?_
    · refine CW_seq (CW_region ?_)
      simp only [zZ, reduceIte, Nat.reduceLT, Int.reduceToNat, Int.reduceLE, Int.reduceEq, Int.reduceLT, Nat.reduceEqDiff, Nat.reduceAdd, zTy]
      refine CW_block (BW_loop hc (fun n f l => ∃ t : Nat, t + n = files.length ∧ f = [(0, .slice a files.length cap), (4, .int .i64 (t : Nat))] ∧
        l = [] ∧ clashAny files t = false) files.length ?_ ?_)
      · refine ⟨_, rfl, [], [0, 4], rfl, ?_⟩
        simp only [zZ, reduceIte, Nat.reduceLT, Int.reduceToNat, Int.reduceLE, Int.reduceEq, Int.reduceLT, Nat.reduceEqDiff, Nat.reduceAdd, zG, fp]
        exact ⟨0, by omega, rfl, rfl⟩
      · rintro n f l ⟨t, htn, rfl, rfl, hcl⟩
        refine CW_seq (CW_seq (CW_region ?_))
        simp only [zZ, reduceIte, Nat.reduceLT, Int.reduceToNat, Int.reduceLE, Int.reduceEq, Int.reduceLT, Nat.reduceEqDiff, Nat.reduceAdd, zTy]
        refine CW_cond (decide ((t : Int) < (files.length : Int))) (by rfl) (fun h => CW_skip ?_) (fun h => CW_exit ?_)
        · simp only [zZ, reduceIte, Nat.reduceLT, Int.reduceToNat, Int.reduceLE, Int.reduceEq, Int.reduceLT, Nat.reduceEqDiff, Nat.reduceAdd]
          have htl : t < files.length := by have := of_decide_eq_true h; omega
          have h0 : (0 : Int) ≤ (t : Int) := by omega
          have h1 : (t : Int) < (files.length : Int) := by omega
          obtain ⟨g, ro, hpa, hgp⟩ := hF.at (by omega)
          have hg : ∀ l, (ext m l).get g = some (.cells ro 2 (files.flatMap fileC)) := fun l => ext_get_old l hgp
          have sg : ∀ keep, sig m.size keep g = some g := fun keep => sig_old keep (Mem.get_lt hgp)
          obtain ⟨A, hA⟩ : ∃ A, files[t]? = some A := ⟨_, List.getElem?_eq_getElem htl⟩
          have c0 : (files.flatMap fileC)[t * 2]? = some (.string (str A.1)) := flatMap_get (fun a _ => fileC_len a) hA (o := 0) (by decide)
          have xi : IntKind.i64.wrap ((t : Int) + 1) = ((t + 1 : Nat) : Int) := by rw [wr (by omega) (by omega)]; omega
          subst hpa
          refine BW_mid hc (fun f l => f = [(0, .slice (some ⟨g, 0, none⟩) files.length cap), (4, .int .i64 (t : Nat))] ∧ l = [] ∧ clashRow files t files.length = false) (CW_block (CW_seq (CW_region ?_))) ?_
          · simp only [zZ, reduceIte, Nat.reduceLT, Int.reduceToNat, Int.reduceLE, Int.reduceEq, Int.reduceLT, Nat.reduceEqDiff, Nat.reduceAdd, zTy]
            refine CW_block (BW_loop hc (fun n f l => ∃ u : Nat, u + n = files.length ∧ f = [(0, .slice (some ⟨g, 0, none⟩) files.length cap), (4, .int .i64 (t : Nat)), (5, .int .i64 (u : Nat))] ∧
              l = [] ∧ clashRow files t u = false) files.length ?_ ?_)
            · refine ⟨_, rfl, [], [0, 4, 5], rfl, ?_⟩
              simp only [zZ, reduceIte, Nat.reduceLT, Int.reduceToNat, Int.reduceLE, Int.reduceEq, Int.reduceLT, Nat.reduceEqDiff, Nat.reduceAdd, zG, sg]
              exact ⟨0, by omega, rfl, rfl⟩
            · rintro n2 f l ⟨u, hun, rfl, rfl, hany⟩
              refine CW_seq (CW_seq (CW_region ?_))
              simp only [zZ, reduceIte, Nat.reduceLT, Int.reduceToNat, Int.reduceLE, Int.reduceEq, Int.reduceLT, Nat.reduceEqDiff, Nat.reduceAdd, zTy]
              refine CW_cond (decide ((u : Int) < (files.length : Int))) (by rfl) (fun h => CW_skip ?_) (fun h => CW_exit ?_)
              · simp only [zZ, reduceIte, Nat.reduceLT, Int.reduceToNat, Int.reduceLE, Int.reduceEq, Int.reduceLT, Nat.reduceEqDiff, Nat.reduceAdd]
                have hul : u < files.length := by have := of_decide_eq_true h; omega
                have k0 : (0 : Int) ≤ (u : Int) := by omega
                have k1 : (u : Int) < (files.length : Int) := by omega
                obtain ⟨B, hB⟩ : ∃ B, files[u]? = some B := ⟨_, List.getElem?_eq_getElem hul⟩
                have d0 : (files.flatMap fileC)[u * 2]? = some (.string (str B.1)) := flatMap_get (fun a _ => fileC_len a) hB (o := 0) (by decide)
                have hat : clashAt files t u = (!decide (t = u) && (decide (A.1 = B.1) || underV A.1 B.1)) := by unfold clashAt; rw [hA, hB]
                have yi : IntKind.i64.wrap ((u : Int) + 1) = ((u + 1 : Nat) : Int) := by rw [wr (by omega) (by omega)]; omega
                have en : ((t : Int) != (u : Int)) = !decide (t = u) := by
                  rw [bne, Bool.not_inj_iff, Bool.eq_iff_iff, beq_iff_eq, decide_eq_true_eq]; omega
                have hstep : clashAt files t u = false → clashRow files t (u + 1) = false := fun hz => by rw [clashRow_succ, hany, hz]; rfl
                have hhit2 := hhit t u htl hul
                refine CW_seq (CW_block (CW_seq (CW_draw hmix 26 (by kernel_rfl) (by kernel_rfl) ?_)))
                cases e0 : decide (t = u)
                case' true =>
                  simp only [zZ, reduceIte, Nat.reduceLT, Int.reduceToNat, Int.reduceLE, Int.reduceEq, Int.reduceLT, Nat.reduceEqDiff, Nat.reduceAdd, zTy, en, e0]
                  refine CW_cond false (by rfl) (fun h => by cases h) (fun _ => CW_skip ?_)
                  simp only [zZ, reduceIte, Nat.reduceLT, Int.reduceToNat, Int.reduceLE, Int.reduceEq, Int.reduceLT, Nat.reduceEqDiff, Nat.reduceAdd]
                  refine CW_region ?_
                  simp only [zZ, reduceIte, Nat.reduceLT, Int.reduceToNat, Int.reduceLE, Int.reduceEq, Int.reduceLT, Nat.reduceEqDiff, Nat.reduceAdd, yi]
                  refine ⟨_, rfl, [], [0, 4, 5], rfl, ?_⟩
                  simp only [zZ, reduceIte, Nat.reduceLT, Int.reduceToNat, Int.reduceLE, Int.reduceEq, Int.reduceLT, Nat.reduceEqDiff, Nat.reduceAdd, zG, sg]
                  exact ⟨n2 - 1, ⟨u + 1, by omega, rfl, hstep (by rw [hat, e0]; rfl)⟩, by omega⟩
                cases e1 : decide (A.1 = B.1)
                case' true =>
                  simp only [zZ, reduceIte, Nat.reduceLT, Int.reduceToNat, Int.reduceLE, Int.reduceEq, Int.reduceLT, Nat.reduceEqDiff, Nat.reduceAdd, zTy, en, e0, h0, h1, k0, k1, and_self, hg, c0, d0, beqB_str, e1]
                  refine CW_cond true (by rfl) (fun _ => CW_seq (CW_region ?_)) (fun h => by cases h)
                  simp only [zZ, reduceIte, Nat.reduceLT, Int.reduceToNat, Int.reduceLE, Int.reduceEq, Int.reduceLT, Nat.reduceEqDiff, Nat.reduceAdd, zTy]
                  refine CW_ret ?_
                  simp only [zZ, reduceIte, Nat.reduceLT, Int.reduceToNat, Int.reduceLE, Int.reduceEq, Int.reduceLT, Nat.reduceEqDiff, Nat.reduceAdd, zTy, bEnd, sAnswer, sAnswer.sRes]
                  exact told_flat rfl (by rw [hhit2 (by rw [hat, e0, e1]; rfl)])
                simp only [zZ, reduceIte, Nat.reduceLT, Int.reduceToNat, Int.reduceLE, Int.reduceEq, Int.reduceLT, Nat.reduceEqDiff, Nat.reduceAdd, zTy, en, e0, h0, h1, k0, k1, and_self, hg, c0, d0, beqB_str, e1]
                refine ⟨by kernel_rfl, _, runder_spec A.1 B.1 _, ?_⟩
                rintro _ _ ⟨rfl, rfl⟩
                simp only [zZ, reduceIte, Nat.reduceLT, Int.reduceToNat, Int.reduceLE, Int.reduceEq, Int.reduceLT, Nat.reduceEqDiff, Nat.reduceAdd, zTy]
                refine CW_cond (underV A.1 B.1) (by rfl) (fun hb => CW_seq (CW_region ?_)) (fun hb => CW_skip ?_)
                · simp only [zZ, reduceIte, Nat.reduceLT, Int.reduceToNat, Int.reduceLE, Int.reduceEq, Int.reduceLT, Nat.reduceEqDiff, Nat.reduceAdd, zTy]
                  refine CW_ret ?_
                  simp only [zZ, reduceIte, Nat.reduceLT, Int.reduceToNat, Int.reduceLE, Int.reduceEq, Int.reduceLT, Nat.reduceEqDiff, Nat.reduceAdd, zTy, bEnd, sAnswer, sAnswer.sRes]
                  exact told_flat rfl (by rw [hhit2 (by rw [hat, e0, e1, hb]; rfl)])
                · simp only [zZ, reduceIte, Nat.reduceLT, Int.reduceToNat, Int.reduceLE, Int.reduceEq, Int.reduceLT, Nat.reduceEqDiff, Nat.reduceAdd]
                  refine CW_region ?_
                  simp only [zZ, reduceIte, Nat.reduceLT, Int.reduceToNat, Int.reduceLE, Int.reduceEq, Int.reduceLT, Nat.reduceEqDiff, Nat.reduceAdd, yi]
                  refine ⟨_, rfl, [], [0, 4, 5], rfl, ?_⟩
                  simp only [zZ, reduceIte, Nat.reduceLT, Int.reduceToNat, Int.reduceLE, Int.reduceEq, Int.reduceLT, Nat.reduceEqDiff, Nat.reduceAdd, zG, sg]
                  exact ⟨n2 - 1, ⟨u + 1, by omega, rfl, hstep (by rw [hat, e0, e1, hb]; rfl)⟩, by omega⟩
              · simp only [zZ, reduceIte, Nat.reduceLT, Int.reduceToNat, Int.reduceLE, Int.reduceEq, Int.reduceLT, Nat.reduceEqDiff, Nat.reduceAdd]
                have hul : u = files.length := by have := of_decide_eq_false h; omega
                refine ⟨_, rfl, [], [0, 4], rfl, ?_⟩
                simp only [zZ, reduceIte, Nat.reduceLT, Int.reduceToNat, Int.reduceLE, Int.reduceEq, Int.reduceLT, Nat.reduceEqDiff, Nat.reduceAdd, zG, sg]
                rw [hul] at hany
                exact hany
          · rintro f l ⟨rfl, rfl, hcl3⟩
            refine CW_region ?_
            simp only [zZ, reduceIte, Nat.reduceLT, Int.reduceToNat, Int.reduceLE, Int.reduceEq, Int.reduceLT, Nat.reduceEqDiff, Nat.reduceAdd, xi]
            refine ⟨_, rfl, [], [0, 4], rfl, ?_⟩
            simp only [zZ, reduceIte, Nat.reduceLT, Int.reduceToNat, Int.reduceLE, Int.reduceEq, Int.reduceLT, Nat.reduceEqDiff, Nat.reduceAdd, zG, sg]
            exact ⟨n - 1, ⟨t + 1, by omega, rfl, by rw [clashAny_succ, hcl, hcl3]; rfl⟩, by omega⟩
        · simp only [zZ, reduceIte, Nat.reduceLT, Int.reduceToNat, Int.reduceLE, Int.reduceEq, Int.reduceLT, Nat.reduceEqDiff, Nat.reduceAdd]
          have htl : t = files.length := by have := of_decide_eq_false h; omega
          refine ⟨_, rfl, [], [], rfl, ?_⟩
          simp only [zZ, reduceIte, Nat.reduceLT, Int.reduceToNat, Int.reduceLE, Int.reduceEq, Int.reduceLT, Nat.reduceEqDiff, Nat.reduceAdd, zG]
          rw [htl] at hcl
          exact hcl
    · rintro f l ⟨rfl, rfl, hcl⟩
      refine CW_seq (CW_region ?_)
      simp only [zZ, reduceIte, Nat.reduceLT, Int.reduceToNat, Int.reduceLE, Int.reduceEq, Int.reduceLT, Nat.reduceEqDiff, Nat.reduceAdd, zTy]
      refine CW_ret ?_
      simp only [zZ, reduceIte, Nat.reduceLT, Int.reduceToNat, Int.reduceLE, Int.reduceEq, Int.reduceLT, Nat.reduceEqDiff, Nat.reduceAdd, zTy, bEnd, sAnswer, sAnswer.sRes]
      exact told_flat rfl (by rw [hR2, hcl]; rfl)
end Go.Proofs.YthcleiegefhmdaaGreatDoor
namespace Go.Proofs.YthcleiegefhmdaaGreatDoor
open Go.RowKit Abs
def zDig := And.intro (And.intro Tryz.underlying9 Tryz.underlying5) (And.intro Tryz.underlying3 Tryz.underlying4)
set_option maxRecDepth 100000 in
set_option maxHeartbeats 2000000 in
theorem digit_spec (b : UInt8) (m : Mem) : Abs.Spec Tryz.prog 49 [byteV b] m fun u M => u = .int .i64 (digN b) ∧ M = m := by
  refine Abs.Spec.walkB Tryz.func49 (by rfl) _ Tryz.results49 _ Tryz.ntmps49 (by simp) m [] (ext_nil m).symm 0 rfl (.inl rfl) ?_
  intro hc _
  have hb := b.toNat_lt
  obtain ⟨k, hk⟩ : ∃ k : Int, k = b.toNat := ⟨_, rfl⟩
  obtain ⟨R, hR⟩ : ∃ R, R = digN b := ⟨_, rfl⟩
  have hR2 : R = digI k := by rw [hR, hk]; rfl
  rw [← hR]
  unfold byteV
  rw [← hk]
  have hk0 : 0 ≤ k := by omega
  have hk1 : k < 256 := by omega
  clear hR hk hb
  refine CW_seq (CW_region ?_)
  simp only [zZ, reduceIte, Nat.reduceLT, Int.reduceToNat, Int.reduceLE, Int.reduceEq, Int.reduceLT, Nat.reduceEqDiff, Nat.reduceAdd, zDig]
  refine CW_seq (CW_seq (CW_region ?_))
  by_cases c1 : 48 ≤ k <;> by_cases c2 : k ≤ 57 <;> simp only [zZ, reduceIte, Nat.reduceLT, Int.reduceToNat, Int.reduceLE, Int.reduceEq, Int.reduceLT, Nat.reduceEqDiff, Nat.reduceAdd, zDig, c1, c2, decide_true, decide_false]
  · have w1 : IntKind.u8.wrap (k - 48) = k - 48 := by unfold IntKind.wrap; simp [IntKind.bits, IntKind.signed]; omega
    have w2 : IntKind.i64.wrap (k - 48) = k - 48 := wr (by omega) (by omega)
    refine CW_cond true (by rfl) (fun _ => CW_seq (CW_region ?_)) (fun h => by cases h)
    simp only [zZ, reduceIte, Nat.reduceLT, Int.reduceToNat, Int.reduceLE, Int.reduceEq, Int.reduceLT, Nat.reduceEqDiff, Nat.reduceAdd, zDig, w1, w2]
    refine CW_ret ?_
    simp only [zZ, reduceIte, Nat.reduceLT, Int.reduceToNat, Int.reduceLE, Int.reduceEq, Int.reduceLT, Nat.reduceEqDiff, Nat.reduceAdd, zDig, bEnd, sAnswer, sAnswer.sRes]
    exact told_flat rfl (by rw [hR2, digI, if_pos ⟨c1, c2⟩])
  all_goals
    refine CW_cond false (by rfl) (fun h => by cases h) (fun _ => CW_skip ?_)
    simp only [zZ, reduceIte, Nat.reduceLT, Int.reduceToNat, Int.reduceLE, Int.reduceEq, Int.reduceLT, Nat.reduceEqDiff, Nat.reduceAdd]
    refine CW_seq (CW_seq (CW_region ?_))
    by_cases c3 : 97 ≤ k <;> by_cases c4 : k ≤ 102 <;> simp only [zZ, reduceIte, Nat.reduceLT, Int.reduceToNat, Int.reduceLE, Int.reduceEq, Int.reduceLT, Nat.reduceEqDiff, Nat.reduceAdd, zDig, c3, c4, decide_true, decide_false]
  all_goals first
    | refine CW_cond true (by rfl) (fun _ => CW_seq (CW_region ?_)) (fun h => by cases h)
      have w1 : IntKind.u8.wrap (k - 97) = k - 97 := by unfold IntKind.wrap; simp [IntKind.bits, IntKind.signed]; omega
      have w2 : IntKind.i64.wrap (k - 97) = k - 97 := wr (by omega) (by omega)
      have w3 : IntKind.i64.wrap (k - 97 + 10) = k - 97 + 10 := wr (by omega) (by omega)
      simp only [zZ, reduceIte, Nat.reduceLT, Int.reduceToNat, Int.reduceLE, Int.reduceEq, Int.reduceLT, Nat.reduceEqDiff, Nat.reduceAdd, zDig, w1, w2, w3]
      refine CW_ret ?_
      simp only [zZ, reduceIte, Nat.reduceLT, Int.reduceToNat, Int.reduceLE, Int.reduceEq, Int.reduceLT, Nat.reduceEqDiff, Nat.reduceAdd, zDig, bEnd, sAnswer, sAnswer.sRes]
      exact told_flat rfl (by rw [hR2, digI, if_neg (by omega), if_pos ⟨c3, c4⟩]; congr 1; omega)
    | refine CW_cond false (by rfl) (fun h => by cases h) (fun _ => CW_skip ?_)
      simp only [zZ, reduceIte, Nat.reduceLT, Int.reduceToNat, Int.reduceLE, Int.reduceEq, Int.reduceLT, Nat.reduceEqDiff, Nat.reduceAdd]
      refine CW_seq (CW_region ?_)
      simp only [zZ, reduceIte, Nat.reduceLT, Int.reduceToNat, Int.reduceLE, Int.reduceEq, Int.reduceLT, Nat.reduceEqDiff, Nat.reduceAdd, zDig]
      refine CW_ret ?_
      simp only [zZ, reduceIte, Nat.reduceLT, Int.reduceToNat, Int.reduceLE, Int.reduceEq, Int.reduceLT, Nat.reduceEqDiff, Nat.reduceAdd, zDig, bEnd, sAnswer, sAnswer.sRes]
      exact told_flat rfl (by rw [hR2, digI, if_neg (by omega), if_neg (by omega)])
end Go.Proofs.YthcleiegefhmdaaGreatDoor
namespace Go.Proofs.YthcleiegefhmdaaGreatDoor
open Go.RowKit Abs
def sideV (s : List UInt8) : Int := if s = [115, 101, 110, 100, 101, 114] then 1 else if s = [114, 101, 99, 101, 105, 118, 101, 114] then 0 else -1
set_option maxRecDepth 100000 in
set_option maxHeartbeats 2000000 in
theorem rside_spec (s : List UInt8) (m : Mem) :
    Abs.Spec Tryz.prog 31 [.string (str s)] m fun u M => u = .int .i64 (sideV s) ∧ M = m := by
  refine Abs.Spec.walkB Tryz.func31 (by rfl) _ Tryz.results31 _ Tryz.ntmps31 (by simp) m [] (ext_nil m).symm 0 rfl (.inl rfl) ?_
  intro hc _
  have b1 : beqB (str s) ⟨#[115, 101, 110, 100, 101, 114]⟩ = decide (s = [115, 101, 110, 100, 101, 114]) := beqB_str s _
  have b2 : beqB (str s) ⟨#[114, 101, 99, 101, 105, 118, 101, 114]⟩ = decide (s = [114, 101, 99, 101, 105, 118, 101, 114]) := beqB_str s _
  refine CW_seq (CW_region ?_)
  simp only [zZ, reduceIte, Nat.reduceLT, Int.reduceToNat, Int.reduceLE, Int.reduceEq, Int.reduceLT, Nat.reduceEqDiff, Nat.reduceAdd, zTy]
  refine CW_seq (CW_seq (CW_region ?_))
  simp only [zZ, reduceIte, Nat.reduceLT, Int.reduceToNat, Int.reduceLE, Int.reduceEq, Int.reduceLT, Nat.reduceEqDiff, Nat.reduceAdd, zTy, b1]
  refine CW_cond (decide (s = [115, 101, 110, 100, 101, 114])) (by rfl) (fun h => CW_seq (CW_region ?_)) (fun h => CW_skip ?_)
  · simp only [zZ, reduceIte, Nat.reduceLT, Int.reduceToNat, Int.reduceLE, Int.reduceEq, Int.reduceLT, Nat.reduceEqDiff, Nat.reduceAdd, zTy]
    refine CW_ret ?_
    simp only [zZ, reduceIte, Nat.reduceLT, Int.reduceToNat, Int.reduceLE, Int.reduceEq, Int.reduceLT, Nat.reduceEqDiff, Nat.reduceAdd, zTy, bEnd, sAnswer, sAnswer.sRes]
    exact told_flat rfl (by rw [sideV, if_pos (of_decide_eq_true h)])
  · simp only [zZ, reduceIte, Nat.reduceLT, Int.reduceToNat, Int.reduceLE, Int.reduceEq, Int.reduceLT, Nat.reduceEqDiff, Nat.reduceAdd]
    refine CW_seq (CW_seq (CW_region ?_))
    simp only [zZ, reduceIte, Nat.reduceLT, Int.reduceToNat, Int.reduceLE, Int.reduceEq, Int.reduceLT, Nat.reduceEqDiff, Nat.reduceAdd, zTy, b2]
    refine CW_cond (decide (s = [114, 101, 99, 101, 105, 118, 101, 114])) (by rfl) (fun h2 => CW_seq (CW_region ?_)) (fun h2 => CW_skip ?_)
    · simp only [zZ, reduceIte, Nat.reduceLT, Int.reduceToNat, Int.reduceLE, Int.reduceEq, Int.reduceLT, Nat.reduceEqDiff, Nat.reduceAdd, zTy]
      refine CW_ret ?_
      simp only [zZ, reduceIte, Nat.reduceLT, Int.reduceToNat, Int.reduceLE, Int.reduceEq, Int.reduceLT, Nat.reduceEqDiff, Nat.reduceAdd, zTy, bEnd, sAnswer, sAnswer.sRes]
      exact told_flat rfl (by rw [sideV, if_neg (of_decide_eq_false h), if_pos (of_decide_eq_true h2)])
    · simp only [zZ, reduceIte, Nat.reduceLT, Int.reduceToNat, Int.reduceLE, Int.reduceEq, Int.reduceLT, Nat.reduceEqDiff, Nat.reduceAdd]
      refine CW_seq (CW_region ?_)
      simp only [zZ, reduceIte, Nat.reduceLT, Int.reduceToNat, Int.reduceLE, Int.reduceEq, Int.reduceLT, Nat.reduceEqDiff, Nat.reduceAdd, zTy]
      refine CW_ret ?_
      simp only [zZ, reduceIte, Nat.reduceLT, Int.reduceToNat, Int.reduceLE, Int.reduceEq, Int.reduceLT, Nat.reduceEqDiff, Nat.reduceAdd, zTy, bEnd, sAnswer, sAnswer.sRes]
      exact told_flat rfl (by rw [sideV, if_neg (of_decide_eq_false h), if_neg (of_decide_eq_false h2)])
theorem bapp_u8 (m : Mem) (l : List (Option (Option Blk))) (k j : Nat) (q : List UInt8) (d : UInt8) (hs : nth l k = some (some (.cells false 1 [.int .u8 d.toNat]))) (hj : nth l j = some (some (.cells false 1 (bytesV q)))) (hq : q.length ≤ 1000000000) :
    aAppend Tryz.prog (ext m l) 76 76 (.slice (some ⟨m.size + j, 0, none⟩) q.length q.length) (.slice (some ⟨m.size + k, 0, none⟩) 1 1) =
      some (.slice (some ⟨m.size + l.length, 0, none⟩) (q.length + 1) (q.length + 1), ext m (l.set j (some none) ++ [some (some (.cells false 1 (bytesV (q ++ [d]))))])) := by
  have h := bapp (N := 1) (n := q.length) (k := 1) (cs := bytesV q) Tryz.underlying76 inf_u8 u8_zero u8_size rfl m l (src_block (c := 1) (news := [.int .u8 d.toNat]) (ro := false) (s := 1) Tryz.underlying76 (by rw [ext_get, hs]) rfl) (by decide) hj (by simp [bytesV]) (by rw [u8_bytes]; omega) (by omega)
  rw [h]
  simp [bytesV, byteV]
theorem bapp_u8_nil (m : Mem) (l : List (Option (Option Blk))) (k : Nat) (d : UInt8) (hs : nth l k = some (some (.cells false 1 [.int .u8 d.toNat]))) :
    aAppend Tryz.prog (ext m l) 76 76 (.slice none 0 0) (.slice (some ⟨m.size + k, 0, none⟩) 1 1) =
      some (.slice (some ⟨m.size + l.length, 0, none⟩) 1 1, ext m (l ++ [some (some (.cells false 1 (bytesV [d])))])) :=
  bapp_nil (N := 1) (k := 1) (news := [.int .u8 d.toNat]) Tryz.underlying76 inf_u8 u8_zero u8_size rfl m l (src_block (c := 1) (news := [.int .u8 d.toNat]) (ro := false) (s := 1) Tryz.underlying76 (by rw [ext_get, hs]) rfl) (by decide) (by rw [u8_bytes]; decide) (by decide)
theorem bytesV_flat (q : List UInt8) (σ : Nat → Option Nat) : renL (ren σ 4) (bytesV q) = some (bytesV q) := renL_flat fun x hx => by
  simp only [bytesV, List.mem_map] at hx
  obtain ⟨y, _, rfl⟩ := hx
  rfl
theorem mul_dig (a b : UInt8) (ha : ¬ digN a < 0) (hb : ¬ digN b < 0) : IntKind.u8.wrap (IntKind.i64.wrap (IntKind.i64.wrap (16 * digN a) + digN b)) = ((UInt8.ofNat (16 * digN a + digN b).toNat).toNat : Int) := by
  have a2 := digN_lt a
  have b2 := digN_lt b
  rw [wr (x := 16 * digN a) (by omega) (by omega), wr (by omega) (by omega), UInt8.toNat_ofNat']
  unfold IntKind.wrap; simp [IntKind.bits, IntKind.signed]; omega
set_option maxRecDepth 100000 in
set_option maxHeartbeats 2000000 in
theorem rbytes_spec (s : List UInt8) (hs : s.length ≤ 1000000) (m : Mem) :
    Abs.Spec Tryz.prog 32 [.string (str s)] m fun u M => u = .tuple #[.string (str (unhexV s).1), .bool (unhexV s).2] ∧ M = m := by
  refine Abs.Spec.walkB Tryz.func32 (by rfl) _ Tryz.results32 _ Tryz.ntmps32 (by simp) m [] (ext_nil m).symm 0 rfl (.inl rfl) ?_
  intro hc _
  obtain ⟨R, hR⟩ : ∃ R, R = unhexV s := ⟨_, rfl⟩
  rw [← hR]
  have b1 : beqB (str s) ⟨#[45]⟩ = decide (s = [45]) := beqB_str s _
  refine CW_seq (CW_region ?_)
  simp only [zZ, reduceIte, Nat.reduceLT, Int.reduceToNat, Int.reduceLE, Int.reduceEq, Int.reduceLT, Nat.reduceEqDiff, Nat.reduceAdd, zTy]
  refine CW_seq (CW_seq (CW_region ?_))
  simp only [zZ, reduceIte, Nat.reduceLT, Int.reduceToNat, Int.reduceLE, Int.reduceEq, Int.reduceLT, Nat.reduceEqDiff, Nat.reduceAdd, zTy, b1]
  refine CW_cond (decide (s = [45])) (by rfl) (fun h => CW_seq (CW_region ?_)) (fun h => CW_skip ?_)
  · simp only [zZ, reduceIte, Nat.reduceLT, Int.reduceToNat, Int.reduceLE, Int.reduceEq, Int.reduceLT, Nat.reduceEqDiff, Nat.reduceAdd, zTy]
    refine CW_ret ?_
    simp only [zZ, reduceIte, Nat.reduceLT, Int.reduceToNat, Int.reduceLE, Int.reduceEq, Int.reduceLT, Nat.reduceEqDiff, Nat.reduceAdd, zTy, bEnd, sAnswer, sAnswer.sRes]
    exact told_flat rfl (by rw [hR, unhexV, if_pos (of_decide_eq_true h)]; rfl)
  have hne1 := of_decide_eq_false h
  simp only [zZ, reduceIte, Nat.reduceLT, Int.reduceToNat, Int.reduceLE, Int.reduceEq, Int.reduceLT, Nat.reduceEqDiff, Nat.reduceAdd]
  refine CW_seq (CW_seq (CW_region ?_))
  by_cases c1 : s = []
  · have z0 : ((s.length : Int) == 0) = true := by rw [c1]; rfl
    simp only [zZ, reduceIte, Nat.reduceLT, Int.reduceToNat, Int.reduceLE, Int.reduceEq, Int.reduceLT, Nat.reduceEqDiff, Nat.reduceAdd, zTy, bsize_str, z0]
    refine CW_cond true (by rfl) (fun _ => CW_seq (CW_region ?_)) (fun h => by cases h)
    simp only [zZ, reduceIte, Nat.reduceLT, Int.reduceToNat, Int.reduceLE, Int.reduceEq, Int.reduceLT, Nat.reduceEqDiff, Nat.reduceAdd, zTy]
    refine CW_ret ?_
    simp only [zZ, reduceIte, Nat.reduceLT, Int.reduceToNat, Int.reduceLE, Int.reduceEq, Int.reduceLT, Nat.reduceEqDiff, Nat.reduceAdd, zTy, bEnd, sAnswer, sAnswer.sRes]
    exact told_flat rfl (by rw [hR, unhexV, if_neg hne1, if_pos c1]; rfl)
  have hpos : 0 < s.length := List.length_pos_iff.2 c1
  have z0 : ((s.length : Int) == 0) = false := by rw [beq_eq_false_iff_ne]; omega
  have hR2 : R = match unhexL s with | some q => (q, true) | none => ([], false) := by rw [hR, unhexV, if_neg hne1, if_neg c1]; rfl
  have tm : ((s.length : Int).tmod 2 == 1) = decide (s.length % 2 = 1) := by
    rw [Int.tmod_eq_emod_of_nonneg (by omega)]
    by_cases h : s.length % 2 = 1
    · rw [decide_eq_true h]; simp; omega
    · rw [decide_eq_false h]; simp; omega
  simp only [zZ, reduceIte, Nat.reduceLT, Int.reduceToNat, Int.reduceLE, Int.reduceEq, Int.reduceLT, Nat.reduceEqDiff, Nat.reduceAdd, zTy, bsize_str, z0, tm]
  refine CW_cond (decide (s.length % 2 = 1)) (by rfl) (fun h => CW_seq (CW_region ?_)) (fun h => CW_skip ?_)
  · simp only [zZ, reduceIte, Nat.reduceLT, Int.reduceToNat, Int.reduceLE, Int.reduceEq, Int.reduceLT, Nat.reduceEqDiff, Nat.reduceAdd, zTy]
    refine CW_ret ?_
    simp only [zZ, reduceIte, Nat.reduceLT, Int.reduceToNat, Int.reduceLE, Int.reduceEq, Int.reduceLT, Nat.reduceEqDiff, Nat.reduceAdd, zTy, bEnd, sAnswer, sAnswer.sRes]
    exact told_flat rfl (by rw [hR2, unhexL_odd s (of_decide_eq_true h)]; rfl)
  have hev : s.length % 2 = 0 := by have := of_decide_eq_false h; omega
  simp only [zZ, reduceIte, Nat.reduceLT, Int.reduceToNat, Int.reduceLE, Int.reduceEq, Int.reduceLT, Nat.reduceEqDiff, Nat.reduceAdd]
  refine CW_seq (CW_region ?_)
  simp only [zZ, reduceIte, Nat.reduceLT, Int.reduceToNat, Int.reduceLE, Int.reduceEq, Int.reduceLT, Nat.reduceEqDiff, Nat.reduceAdd, zTy]
  refine CW_seq (CW_seq (CW_region ?_))
  simp only [zZ, reduceIte, Nat.reduceLT, Int.reduceToNat, Int.reduceLE, Int.reduceEq, Int.reduceLT, Nat.reduceEqDiff, Nat.reduceAdd, zTy]
  refine CW_block (BW_loop hc (fun n f l => ∃ (t : Nat) (q : List UInt8) (V : Value), t + n = s.length ∧ t % 2 = 0 ∧ q.length ≤ t ∧ unhexL s = (unhexL (s.drop t)).map (q ++ ·) ∧ f = [(0, .string (str s)), (4, V), (5, .int .i64 (t : Nat))] ∧
    ((q = [] ∧ t = 0 ∧ V = .slice none 0 0 ∧ l = []) ∨ (q ≠ [] ∧ V = .slice (some ⟨m.size + 0, 0, none⟩) q.length q.length ∧ l = [some (some (.cells false 1 (bytesV q)))]))) s.length ?_ ?_)
  · refine ⟨_, rfl, [], [0, 4, 5], rfl, ?_⟩
    simp only [zZ, reduceIte, Nat.reduceLT, Int.reduceToNat, Int.reduceLE, Int.reduceEq, Int.reduceLT, Nat.reduceEqDiff, Nat.reduceAdd, zG]
    exact ⟨0, [], _, by omega, rfl, by simp, by simp, rfl, .inl ⟨rfl, rfl, rfl⟩⟩
  · rintro n f l ⟨t, q, V, htn, ht2, hqt, hun, rfl, hV⟩
    refine CW_seq (CW_seq (CW_region ?_))
    simp only [zZ, reduceIte, Nat.reduceLT, Int.reduceToNat, Int.reduceLE, Int.reduceEq, Int.reduceLT, Nat.reduceEqDiff, Nat.reduceAdd, zTy, bsize_str]
    refine CW_cond (decide ((t : Int) < (s.length : Int))) (by rfl) (fun h => CW_skip ?_) (fun h => CW_exit ?_)
    · simp only [zZ, reduceIte, Nat.reduceLT, Int.reduceToNat, Int.reduceLE, Int.reduceEq, Int.reduceLT, Nat.reduceEqDiff, Nat.reduceAdd]
      have htl : t < s.length := by have := of_decide_eq_true h; omega
      obtain ⟨a, ha'⟩ : ∃ a, s[t]? = some a := ⟨_, List.getElem?_eq_getElem htl⟩
      obtain ⟨b, hb'⟩ : ∃ b, s[t + 1]? = some b := ⟨_, List.getElem?_eq_getElem (by omega)⟩
      have i0 := idx_str s t a ha'
      have i1 := idx_str s (t + 1) b hb'
      have hdr : s.drop t = a :: b :: s.drop (t + 2) := by
        rw [List.drop_eq_getElem_cons htl, (List.getElem?_eq_some_iff.1 ha').2, List.drop_eq_getElem_cons (show t + 1 < s.length by omega), (List.getElem?_eq_some_iff.1 hb').2]
      have x1 : IntKind.i64.wrap ((t : Int) + 1) = ((t + 1 : Nat) : Int) := by rw [wr (by omega) (by omega)]; omega
      have x2 : IntKind.i64.wrap ((t : Int) + 2) = ((t + 2 : Nat) : Int) := by rw [wr (by omega) (by omega)]; omega
      refine CW_seq (CW_block (CW_seq (CW_draw hmix 8 (by kernel_rfl) (by kernel_rfl) ?_)))
      simp only [zZ, reduceIte, Nat.reduceLT, Int.reduceToNat, Int.reduceLE, Int.reduceEq, Int.reduceLT, Nat.reduceEqDiff, Nat.reduceAdd, zTy, i0, i1, x1]
      refine ⟨by kernel_rfl, _, digit_spec a _, ?_⟩
      refine ⟨by decide, ?_⟩
      simp only [zZ, reduceIte, Nat.reduceLT, Int.reduceToNat, Int.reduceLE, Int.reduceEq, Int.reduceLT, Nat.reduceEqDiff, Nat.reduceAdd, zTy, i1, x1]
      refine ⟨by kernel_rfl, _, digit_spec b _, ?_⟩
      rintro _ _ ⟨rfl, rfl⟩
      simp only [zZ, reduceIte, Nat.reduceLT, Int.reduceToNat, Int.reduceLE, Int.reduceEq, Int.reduceLT, Nat.reduceEqDiff, Nat.reduceAdd, zTy]
      refine CW_seq (CW_seq (CW_region ?_))
      cases ca : decide (digN a < 0) <;> cases cb : decide (digN b < 0) <;> simp only [zZ, reduceIte, Nat.reduceLT, Int.reduceToNat, Int.reduceLE, Int.reduceEq, Int.reduceLT, Nat.reduceEqDiff, Nat.reduceAdd, zTy, ca, cb]
      case' false.false =>
        refine CW_cond false (by rfl) (fun h => by cases h) (fun _ => CW_skip ?_)
        simp only [zZ, reduceIte, Nat.reduceLT, Int.reduceToNat, Int.reduceLE, Int.reduceEq, Int.reduceLT, Nat.reduceEqDiff, Nat.reduceAdd]
        refine CW_region ?_
        have od := mul_dig a b (of_decide_eq_false ca) (of_decide_eq_false cb)
        obtain ⟨d, hd⟩ : ∃ d, d = UInt8.ofNat (16 * digN a + digN b).toNat := ⟨_, rfl⟩
        rw [← hd] at od
        have hun2 : unhexL s = (unhexL (s.drop (t + 2))).map ((q ++ [d]) ++ ·) := by
          rw [hun, hdr, unhexL, if_neg (by have := of_decide_eq_false ca; have := of_decide_eq_false cb; omega), ← hd]
          cases unhexL (s.drop (t + 2)) <;> simp
        rcases hV with ⟨rfl, rfl, rfl, rfl⟩ | ⟨hq0, rfl, rfl⟩
        · have ha := bapp_u8_nil m [some (some (.cells false 1 [.int .u8 d.toNat]))] 0 d rfl
          simp only [zZ, reduceIte, Nat.reduceLT, Int.reduceToNat, Int.reduceLE, Int.reduceEq, Int.reduceLT, Nat.reduceEqDiff, Nat.reduceAdd, zTy, od, new_u8, List.nil_append, List.length_nil, List.length_cons, ha]
          refine CW_region ?_
          simp only [zZ, reduceIte, Nat.reduceLT, Int.reduceToNat, Int.reduceLE, Int.reduceEq, Int.reduceLT, Nat.reduceEqDiff, Nat.reduceAdd, zTy, x2]
          refine ⟨_, rfl, [1], [0, 4, 5], rfl, ?_⟩
          simp only [zZ, reduceIte, Nat.reduceLT, Int.reduceToNat, Int.reduceLE, Int.reduceEq, Int.reduceLT, Nat.reduceEqDiff, Nat.reduceAdd, zG, bytesV_flat]
          exact ⟨n - 2, ⟨0 + 2, [d], _, by omega, by omega, by simp, hun2, rfl, .inr ⟨by simp, rfl, rfl⟩⟩, by omega⟩
        · have ha := bapp_u8 m [some (some (.cells false 1 (bytesV q))), some (some (.cells false 1 [.int .u8 d.toNat]))] 1 0 q d rfl rfl (by omega)
          simp only [zZ, reduceIte, Nat.reduceLT, Int.reduceToNat, Int.reduceLE, Int.reduceEq, Int.reduceLT, Nat.reduceEqDiff, Nat.reduceAdd, zTy, od, new_u8, List.cons_append, List.nil_append, List.length_nil, List.length_cons, ha]
          refine CW_region ?_
          simp only [zZ, reduceIte, Nat.reduceLT, Int.reduceToNat, Int.reduceLE, Int.reduceEq, Int.reduceLT, Nat.reduceEqDiff, Nat.reduceAdd, zTy, x2]
          refine ⟨_, rfl, [2], [0, 4, 5], rfl, ?_⟩
          simp only [zZ, reduceIte, Nat.reduceLT, Int.reduceToNat, Int.reduceLE, Int.reduceEq, Int.reduceLT, Nat.reduceEqDiff, Nat.reduceAdd, zG, bytesV_flat]
          exact ⟨n - 2, ⟨t + 2, q ++ [d], _, by omega, by omega, by simp; omega, hun2, rfl, .inr ⟨by simp, by simp, rfl⟩⟩, by omega⟩
      all_goals
        refine CW_cond true (by rfl) (fun _ => CW_seq (CW_region ?_)) (fun h => by cases h)
        simp only [zZ, reduceIte, Nat.reduceLT, Int.reduceToNat, Int.reduceLE, Int.reduceEq, Int.reduceLT, Nat.reduceEqDiff, Nat.reduceAdd, zTy]
        refine CW_ret ?_
        simp only [zZ, reduceIte, Nat.reduceLT, Int.reduceToNat, Int.reduceLE, Int.reduceEq, Int.reduceLT, Nat.reduceEqDiff, Nat.reduceAdd, zTy, bEnd, sAnswer, sAnswer.sRes]
        refine told_flat rfl ?_
        rw [hR2, hun, hdr, unhexL, if_pos]
        · rfl
        · first | exact .inl (of_decide_eq_true ca) | exact .inr (of_decide_eq_true cb)
    · simp only [zZ, reduceIte, Nat.reduceLT, Int.reduceToNat, Int.reduceLE, Int.reduceEq, Int.reduceLT, Nat.reduceEqDiff, Nat.reduceAdd]
      have htl : t = s.length := by have := of_decide_eq_false h; omega
      subst htl
      refine CW_seq (CW_region ?_)
      rcases hV with ⟨rfl, h0, rfl, rfl⟩ | ⟨hq0, rfl, rfl⟩
      · omega
      · simp only [zZ, reduceIte, Nat.reduceLT, Int.reduceToNat, Int.reduceLE, Int.reduceEq, Int.reduceLT, Nat.reduceEqDiff, Nat.reduceAdd, zTy]
        rw [to_str (ro := false) (st := 1) (l := q) (by rw [ext_get]; rfl) rfl]
        simp only [zZ, reduceIte, Nat.reduceLT, Int.reduceToNat, Int.reduceLE, Int.reduceEq, Int.reduceLT, Nat.reduceEqDiff, Nat.reduceAdd, zTy]
        refine CW_ret ?_
        simp only [zZ, reduceIte, Nat.reduceLT, Int.reduceToNat, Int.reduceLE, Int.reduceEq, Int.reduceLT, Nat.reduceEqDiff, Nat.reduceAdd, zTy, bEnd, sAnswer, sAnswer.sRes]
        refine told_flat rfl ?_
        rw [hR2, hun, List.drop_length]
        simp [unhexL]
end Go.Proofs.YthcleiegefhmdaaGreatDoor
namespace Go.Proofs.YthcleiegefhmdaaGreatDoor
open Go.RowKit Abs
theorem tdiv_bounds (a : Int) (h : -10 < a) (h1 : a ≤ 4611686018427387904) : 0 ≤ a.tdiv 10 ∧ 10 * a.tdiv 10 ≤ max a 0 := by
  by_cases ha : 0 ≤ a
  · rw [Int.tdiv_eq_ediv_of_nonneg ha]; omega
  · obtain ⟨b, rfl⟩ : ∃ b : Int, a = -b := ⟨-a, by omega⟩
    rw [Int.neg_tdiv, Int.tdiv_eq_ediv_of_nonneg (by omega)]; omega
set_option maxRecDepth 100000 in
set_option maxHeartbeats 2000000 in
theorem rnumber_spec (s : List UInt8) (least most : Int) (hm0 : 0 ≤ most) (hm1 : most ≤ 4611686018427387903) (m : Mem) :
    Abs.Spec Tryz.prog 29 [.string (str s), .int .i64 least, .int .i64 most] m fun u M => u = .tuple #[.int .i64 (numR s least most).1, .bool (numR s least most).2] ∧ M = m := by
  refine Abs.Spec.walkB Tryz.func29 (by rfl) _ Tryz.results29 _ Tryz.ntmps29 (by simp) m [] (ext_nil m).symm 0 rfl (.inl rfl) ?_
  intro hc _
  obtain ⟨R, hR⟩ : ∃ R, R = numR s least most := ⟨_, rfl⟩
  rw [← hR]
  have told : ∀ (x : Int) (y : Bool) (L : List (Option (Option Blk))), R = (x, y) → ToldB m 0 (.tuple #[.int .i64 x, .bool y]) (ext m L) fun u M => u = .tuple #[.int .i64 R.1, .bool R.2] ∧ M = m := fun x y L h => told_flat rfl (by rw [h])
  refine CW_seq (CW_region ?_)
  simp only [zZ, reduceIte, Nat.reduceLT, Int.reduceToNat, Int.reduceLE, Int.reduceEq, Int.reduceLT, Nat.reduceEqDiff, Nat.reduceAdd, zTy]
  refine CW_seq (CW_seq (CW_region ?_))
  have b1 : beqB (str s) ⟨#[45, 49]⟩ = decide (s = [45, 49]) := beqB_str s [45, 49]
  by_cases c0 : s = [45, 49] ∧ least < 0
  · simp only [zZ, reduceIte, Nat.reduceLT, Int.reduceToNat, Int.reduceLE, Int.reduceEq, Int.reduceLT, Nat.reduceEqDiff, Nat.reduceAdd, zTy, b1, decide_eq_true c0.1, decide_eq_true c0.2]
    refine CW_cond true (by rfl) (fun _ => CW_seq (CW_region ?_)) (fun h => by cases h)
    simp only [zZ, reduceIte, Nat.reduceLT, Int.reduceToNat, Int.reduceLE, Int.reduceEq, Int.reduceLT, Nat.reduceEqDiff, Nat.reduceAdd, zTy]
    refine CW_ret ?_
    simp only [zZ, reduceIte, Nat.reduceLT, Int.reduceToNat, Int.reduceLE, Int.reduceEq, Int.reduceLT, Nat.reduceEqDiff, Nat.reduceAdd, zTy, bEnd, sAnswer, sAnswer.sRes]
    exact told _ _ _ (by rw [hR, numR, if_pos c0])
  have hR1 : R = if s = [] ∨ 19 < s.length ∨ (1 < s.length ∧ s.head? = some 48) then (0, false) else match numGo most s 0 with
    | none => (0, false)
    | some n => (n, decide (least ≤ n) && decide (n ≤ most)) := by rw [hR, numR, if_neg c0]; rfl
  refine (show _ from ?_)
  have c0' : (decide (s = [45, 49]) && decide (least < 0)) = false := by rw [Bool.and_eq_false_iff, decide_eq_false_iff_not, decide_eq_false_iff_not]; exact Decidable.not_and_iff_or_not.1 c0
  cases e1 : decide (s = [45, 49]) <;> cases e2 : decide (least < 0) <;> rw [e1, e2] at c0' <;> first | (cases c0'; done) | skip
  all_goals
    simp only [zZ, reduceIte, Nat.reduceLT, Int.reduceToNat, Int.reduceLE, Int.reduceEq, Int.reduceLT, Nat.reduceEqDiff, Nat.reduceAdd, zTy, b1, e1, e2]
    refine CW_cond false (by rfl) (fun h => by cases h) (fun _ => CW_skip ?_)
    simp only [zZ, reduceIte, Nat.reduceLT, Int.reduceToNat, Int.reduceLE, Int.reduceEq, Int.reduceLT, Nat.reduceEqDiff, Nat.reduceAdd]
    clear c0' e1 e2 c0 hR b1
    refine CW_seq (CW_seq (CW_region ?_))
    by_cases c1 : s = []
    case' pos =>
      have z0 : ((s.length : Int) == 0) = true := by rw [c1]; rfl
      simp only [zZ, reduceIte, Nat.reduceLT, Int.reduceToNat, Int.reduceLE, Int.reduceEq, Int.reduceLT, Nat.reduceEqDiff, Nat.reduceAdd, zTy, bsize_str, z0]
      refine CW_cond true (by rfl) (fun _ => CW_seq (CW_region ?_)) (fun h => by cases h)
      simp only [zZ, reduceIte, Nat.reduceLT, Int.reduceToNat, Int.reduceLE, Int.reduceEq, Int.reduceLT, Nat.reduceEqDiff, Nat.reduceAdd, zTy]
      refine CW_ret ?_
      simp only [zZ, reduceIte, Nat.reduceLT, Int.reduceToNat, Int.reduceLE, Int.reduceEq, Int.reduceLT, Nat.reduceEqDiff, Nat.reduceAdd, zTy, bEnd, sAnswer, sAnswer.sRes]
      exact told _ _ _ (by rw [hR1, if_pos (.inl c1)])
    have hpos : 0 < s.length := List.length_pos_iff.2 c1
    have z0 : ((s.length : Int) == 0) = false := by rw [beq_eq_false_iff_ne]; omega
    cases c2 : decide ((19 : Int) < (s.length : Int))
    case' true =>
      simp only [zZ, reduceIte, Nat.reduceLT, Int.reduceToNat, Int.reduceLE, Int.reduceEq, Int.reduceLT, Nat.reduceEqDiff, Nat.reduceAdd, zTy, bsize_str, z0, c2]
      refine CW_cond true (by rfl) (fun _ => CW_seq (CW_region ?_)) (fun h => by cases h)
      simp only [zZ, reduceIte, Nat.reduceLT, Int.reduceToNat, Int.reduceLE, Int.reduceEq, Int.reduceLT, Nat.reduceEqDiff, Nat.reduceAdd, zTy]
      refine CW_ret ?_
      simp only [zZ, reduceIte, Nat.reduceLT, Int.reduceToNat, Int.reduceLE, Int.reduceEq, Int.reduceLT, Nat.reduceEqDiff, Nat.reduceAdd, zTy, bEnd, sAnswer, sAnswer.sRes]
      have := of_decide_eq_true c2
      exact told _ _ _ (by rw [hR1, if_pos (.inr (.inl (by omega)))])
    have h19 := of_decide_eq_false c2
    obtain ⟨b, hb⟩ : ∃ b, s[0]? = some b := ⟨_, List.getElem?_eq_getElem hpos⟩
    have ib : aIndex Tryz.prog 9 (.string (str s)) (.int .i64 0) = some (.int .u8 (b.toNat : Int)) := idx_str s 0 b hb
    have e48 : ((b.toNat : Int) == 48) = decide (b = 48) := u8_eql b 48
    have hhd : s.head? = some b := by rw [List.head?_eq_getElem?]; exact hb
    cases c3 : decide ((1 : Int) < (s.length : Int)) <;> cases c4 : decide (b = 48)
    case' true.true =>
      simp only [zZ, reduceIte, Nat.reduceLT, Int.reduceToNat, Int.reduceLE, Int.reduceEq, Int.reduceLT, Nat.reduceEqDiff, Nat.reduceAdd, zTy, bsize_str, z0, c2, c3, ib, e48, c4]
      refine CW_cond true (by rfl) (fun _ => CW_seq (CW_region ?_)) (fun h => by cases h)
      simp only [zZ, reduceIte, Nat.reduceLT, Int.reduceToNat, Int.reduceLE, Int.reduceEq, Int.reduceLT, Nat.reduceEqDiff, Nat.reduceAdd, zTy]
      refine CW_ret ?_
      simp only [zZ, reduceIte, Nat.reduceLT, Int.reduceToNat, Int.reduceLE, Int.reduceEq, Int.reduceLT, Nat.reduceEqDiff, Nat.reduceAdd, zTy, bEnd, sAnswer, sAnswer.sRes]
      have := of_decide_eq_true c3
      exact told _ _ _ (by rw [hR1, if_pos (.inr (.inr ⟨by omega, by rw [hhd, of_decide_eq_true c4]⟩))])
    all_goals
      simp only [zZ, reduceIte, Nat.reduceLT, Int.reduceToNat, Int.reduceLE, Int.reduceEq, Int.reduceLT, Nat.reduceEqDiff, Nat.reduceAdd, zTy, bsize_str, z0, c2, c3, ib, e48, c4]
      refine CW_cond false (by rfl) (fun h => by cases h) (fun _ => CW_skip ?_)
      have hR2 : R = match numGo most s 0 with
        | none => (0, false)
        | some n => (n, decide (least ≤ n) && decide (n ≤ most)) := by
        rw [hR1, if_neg]
        rintro (h | h | ⟨h, h'⟩)
        · exact c1 h
        · omega
        · rw [hhd] at h'
          first | exact of_decide_eq_false c3 (by omega) | exact of_decide_eq_false c4 (by injection h')
      simp only [zZ, reduceIte, Nat.reduceLT, Int.reduceToNat, Int.reduceLE, Int.reduceEq, Int.reduceLT, Nat.reduceEqDiff, Nat.reduceAdd]
      clear c2 c3 c4 hR1 ib e48 hhd hb z0
      refine CW_seq (CW_region ?_)
      simp only [zZ, reduceIte, Nat.reduceLT, Int.reduceToNat, Int.reduceLE, Int.reduceEq, Int.reduceLT, Nat.reduceEqDiff, Nat.reduceAdd, zTy]
      refine CW_seq (CW_seq (CW_region ?_))
      simp only [zZ, reduceIte, Nat.reduceLT, Int.reduceToNat, Int.reduceLE, Int.reduceEq, Int.reduceLT, Nat.reduceEqDiff, Nat.reduceAdd, zTy]
      refine CW_block (BW_loop hc (fun n f l => ∃ (t : Nat) (v : Int), t + n = s.length ∧ 0 ≤ v ∧ v ≤ 4611686018427387903 ∧ numGo most s 0 = numGo most (s.drop t) v ∧
        f = [(0, .string (str s)), (1, .int .i64 least), (2, .int .i64 most), (8, .int .i64 v), (9, .int .i64 (t : Nat))] ∧ l = []) s.length ?_ ?_)
      · refine ⟨_, rfl, [], [0, 1, 2, 8, 9], rfl, ?_⟩
        simp only [zZ, reduceIte, Nat.reduceLT, Int.reduceToNat, Int.reduceLE, Int.reduceEq, Int.reduceLT, Nat.reduceEqDiff, Nat.reduceAdd, zG]
        exact ⟨0, 0, by omega, by omega, by omega, rfl, rfl⟩
      · rintro n f l ⟨t, v, htn, hv0, hv1, hgo, rfl, rfl⟩
        refine CW_seq (CW_seq (CW_region ?_))
        simp only [zZ, reduceIte, Nat.reduceLT, Int.reduceToNat, Int.reduceLE, Int.reduceEq, Int.reduceLT, Nat.reduceEqDiff, Nat.reduceAdd, zTy, bsize_str]
        refine CW_cond (decide ((t : Int) < (s.length : Int))) (by rfl) (fun h => CW_skip ?_) (fun h => CW_exit ?_)
        · simp only [zZ, reduceIte, Nat.reduceLT, Int.reduceToNat, Int.reduceLE, Int.reduceEq, Int.reduceLT, Nat.reduceEqDiff, Nat.reduceAdd]
          have htl : t < s.length := by have := of_decide_eq_true h; omega
          obtain ⟨b, hb⟩ : ∃ b, s[t]? = some b := ⟨_, List.getElem?_eq_getElem htl⟩
          have hdr := List.drop_eq_getElem_cons htl
          rw [(List.getElem?_eq_some_iff.1 hb).2] at hdr
          have ib := idx_str s t b hb
          rw [hdr, numGo] at hgo
          obtain ⟨k, hk⟩ : ∃ k : Int, k = b.toNat := ⟨_, rfl⟩
          have hk0 : 0 ≤ k := by omega
          have hk2 : k < 256 := by have := b.toNat_lt; omega
          rw [← hk] at ib hgo
          have xi : IntKind.i64.wrap ((t : Int) + 1) = ((t + 1 : Nat) : Int) := by rw [wr (by omega) (by omega)]; omega
          refine CW_seq (CW_block (CW_seq (CW_seq (CW_region ?_))))
          by_cases d1 : k < 48
          case' pos =>
            simp only [zZ, reduceIte, Nat.reduceLT, Int.reduceToNat, Int.reduceLE, Int.reduceEq, Int.reduceLT, Nat.reduceEqDiff, Nat.reduceAdd, zTy, ib, decide_eq_true d1]
            refine CW_cond true (by rfl) (fun _ => CW_seq (CW_region ?_)) (fun h => by cases h)
            simp only [zZ, reduceIte, Nat.reduceLT, Int.reduceToNat, Int.reduceLE, Int.reduceEq, Int.reduceLT, Nat.reduceEqDiff, Nat.reduceAdd, zTy]
            refine CW_ret ?_
            simp only [zZ, reduceIte, Nat.reduceLT, Int.reduceToNat, Int.reduceLE, Int.reduceEq, Int.reduceLT, Nat.reduceEqDiff, Nat.reduceAdd, zTy, bEnd, sAnswer, sAnswer.sRes]
            exact told _ _ _ (by rw [hR2, hgo, if_pos (.inl (by omega))])
          by_cases d2 : 57 < k
          case' pos =>
            simp only [zZ, reduceIte, Nat.reduceLT, Int.reduceToNat, Int.reduceLE, Int.reduceEq, Int.reduceLT, Nat.reduceEqDiff, Nat.reduceAdd, zTy, ib, decide_eq_false d1, decide_eq_true d2]
            refine CW_cond true (by rfl) (fun _ => CW_seq (CW_region ?_)) (fun h => by cases h)
            simp only [zZ, reduceIte, Nat.reduceLT, Int.reduceToNat, Int.reduceLE, Int.reduceEq, Int.reduceLT, Nat.reduceEqDiff, Nat.reduceAdd, zTy]
            refine CW_ret ?_
            simp only [zZ, reduceIte, Nat.reduceLT, Int.reduceToNat, Int.reduceLE, Int.reduceEq, Int.reduceLT, Nat.reduceEqDiff, Nat.reduceAdd, zTy, bEnd, sAnswer, sAnswer.sRes]
            exact told _ _ _ (by rw [hR2, hgo, if_pos (.inr (by omega))])
          simp only [zZ, reduceIte, Nat.reduceLT, Int.reduceToNat, Int.reduceLE, Int.reduceEq, Int.reduceLT, Nat.reduceEqDiff, Nat.reduceAdd, zTy, ib, decide_eq_false d1, decide_eq_false d2]
          refine CW_cond false (by rfl) (fun h => by cases h) (fun _ => CW_skip ?_)
          rw [if_neg (by omega)] at hgo
          have w1 : IntKind.u8.wrap (k - 48) = k - 48 := by unfold IntKind.wrap; simp [IntKind.bits, IntKind.signed]; omega
          have w2 : IntKind.i64.wrap (k - 48) = k - 48 := wr (by omega) (by omega)
          have w3 : IntKind.i64.wrap (most - (k - 48)) = most - (k - 48) := wrs (by omega) (by omega)
          have tb := tdiv_bounds (most - (k - 48)) (by omega) (by omega)
          obtain ⟨q, hq⟩ : ∃ q, q = (most - (k - 48)).tdiv 10 := ⟨_, rfl⟩
          rw [← hq] at tb hgo
          have w4 : IntKind.i64.wrap q = q := wrs (by omega) (by omega)
          simp only [zZ, reduceIte, Nat.reduceLT, Int.reduceToNat, Int.reduceLE, Int.reduceEq, Int.reduceLT, Nat.reduceEqDiff, Nat.reduceAdd]
          refine CW_seq (CW_region ?_)
          simp only [zZ, reduceIte, Nat.reduceLT, Int.reduceToNat, Int.reduceLE, Int.reduceEq, Int.reduceLT, Nat.reduceEqDiff, Nat.reduceAdd, zTy, ib, w1, w2]
          refine CW_seq (CW_seq (CW_region ?_))
          simp only [zZ, reduceIte, Nat.reduceLT, Int.reduceToNat, Int.reduceLE, Int.reduceEq, Int.reduceLT, Nat.reduceEqDiff, Nat.reduceAdd, zTy, w3, ← hq, w4]
          refine CW_cond (decide (q < v)) (by rfl) (fun hqv => CW_seq (CW_region ?_)) (fun hqv => CW_skip ?_)
          · simp only [zZ, reduceIte, Nat.reduceLT, Int.reduceToNat, Int.reduceLE, Int.reduceEq, Int.reduceLT, Nat.reduceEqDiff, Nat.reduceAdd, zTy]
            refine CW_ret ?_
            simp only [zZ, reduceIte, Nat.reduceLT, Int.reduceToNat, Int.reduceLE, Int.reduceEq, Int.reduceLT, Nat.reduceEqDiff, Nat.reduceAdd, zTy, bEnd, sAnswer, sAnswer.sRes]
            exact told _ _ _ (by rw [hR2, hgo, if_pos (of_decide_eq_true hqv)])
          · simp only [zZ, reduceIte, Nat.reduceLT, Int.reduceToNat, Int.reduceLE, Int.reduceEq, Int.reduceLT, Nat.reduceEqDiff, Nat.reduceAdd]
            have hqv := of_decide_eq_false hqv
            rw [if_neg hqv] at hgo
            have w5 : IntKind.i64.wrap (10 * v) = 10 * v := wrs (by omega) (by omega)
            have w6 : IntKind.i64.wrap (10 * v + (k - 48)) = 10 * v + (k - 48) := wrs (by omega) (by omega)
            refine CW_region ?_
            simp only [zZ, reduceIte, Nat.reduceLT, Int.reduceToNat, Int.reduceLE, Int.reduceEq, Int.reduceLT, Nat.reduceEqDiff, Nat.reduceAdd, zTy, w5, w6]
            refine CW_region ?_
            simp only [zZ, reduceIte, Nat.reduceLT, Int.reduceToNat, Int.reduceLE, Int.reduceEq, Int.reduceLT, Nat.reduceEqDiff, Nat.reduceAdd, zTy, xi]
            refine ⟨_, rfl, [], [0, 1, 2, 8, 9], rfl, ?_⟩
            simp only [zZ, reduceIte, Nat.reduceLT, Int.reduceToNat, Int.reduceLE, Int.reduceEq, Int.reduceLT, Nat.reduceEqDiff, Nat.reduceAdd, zG]
            exact ⟨n - 1, ⟨t + 1, _, by omega, by omega, by omega, hgo, rfl⟩, by omega⟩
        · simp only [zZ, reduceIte, Nat.reduceLT, Int.reduceToNat, Int.reduceLE, Int.reduceEq, Int.reduceLT, Nat.reduceEqDiff, Nat.reduceAdd]
          have htl : t = s.length := by have := of_decide_eq_false h; omega
          subst htl
          rw [List.drop_length, numGo] at hgo
          rw [hgo] at hR2
          refine CW_seq (CW_region ?_)
          cases f1 : decide (least ≤ v) <;> cases f2 : decide (v ≤ most) <;> simp only [f1, f2] at hR2 <;> simp only [zZ, reduceIte, Nat.reduceLT, Int.reduceToNat, Int.reduceLE, Int.reduceEq, Int.reduceLT, Nat.reduceEqDiff, Nat.reduceAdd, zTy, f1, f2]
          all_goals
            refine CW_ret ?_
            simp only [zZ, reduceIte, Nat.reduceLT, Int.reduceToNat, Int.reduceLE, Int.reduceEq, Int.reduceLT, Nat.reduceEqDiff, Nat.reduceAdd, zTy, bEnd, sAnswer, sAnswer.sRes]
            exact told _ _ _ hR2
end Go.Proofs.YthcleiegefhmdaaGreatDoor
namespace Go.Proofs.YthcleiegefhmdaaGreatDoor
open Go.RowKit Abs
def rworldV : List (List UInt8) → (Int × Int × Int × Int) × Bool
  | [w0, w1, w2, w3, w4] => if w0 = wordWorld then
      (((numR w1 13 1024).1, (numR w2 13 1024).1, (numR w3 0 1000).1, (numR w4 0 64).1), (numR w1 13 1024).2 && (numR w2 13 1024).2 && (numR w3 0 1000).2 && (numR w4 0 64).2) else ((0, 0, 0, 0), false)
  | _ => ((0, 0, 0, 0), false)
def scrV (x : Int × Int × Int × Int) (s : Value) : Value := .agg #[.int .i64 x.1, .int .i64 x.2.1, .int .i64 x.2.2.1, .int .i64 x.2.2.2, s]
theorem build_rscr0 : aBuild Tryz.prog 31 [] = some (scrV (0, 0, 0, 0) (.slice none 0 0)) := by kernel_rfl
theorem build_rscr4 (a b c d : Int) : aBuild Tryz.prog 31 [(0, .int .i64 a), (1, .int .i64 b), (2, .int .i64 c), (3, .int .i64 d)] = some (scrV (a, b, c, d) (.slice none 0 0)) := by kernel_rfl
set_option maxRecDepth 100000 in
set_option maxHeartbeats 2000000 in
theorem rworld_spec (ws : List (List UInt8)) (n g : Nat) (ro : Bool) (hn : ws.length = n) (m : Mem) (hg : m.get g = some (.cells ro 1 (sC ws))) :
    Abs.Spec Tryz.prog 13 [.slice (some ⟨g, 0, none⟩) n n] m fun u M => u = .tuple #[scrV (rworldV ws).1 (.slice none 0 0), .bool (rworldV ws).2] ∧ M = m := by
  refine Abs.Spec.walkB Tryz.func13 (by rfl) _ Tryz.results13 _ Tryz.ntmps13 (by simp) m [] (ext_nil m).symm 0 rfl (.inl rfl) ?_
  intro hc _
  obtain ⟨R, hR⟩ : ∃ R, R = rworldV ws := ⟨_, rfl⟩
  rw [← hR]
  have told : ∀ (a b c d : Int) (y : Bool) (L : List (Option (Option Blk))), R = ((a, b, c, d), y) → ToldB m 0 (.tuple #[.agg #[.int .i64 a, .int .i64 b, .int .i64 c, .int .i64 d, .slice none 0 0], .bool y]) (ext m L) fun u M => u = .tuple #[scrV R.1 (.slice none 0 0), .bool R.2] ∧ M = m := fun a b c d y L h => told_flat rfl (by rw [h]; rfl)
  have hal := al_RScr
  generalize aStride Tryz.prog 31 = s1 at hal
  have hgl : ∀ l, (ext m l).get g = some (.cells ro 1 (sC ws)) := fun l => ext_get_old l hg
  refine CW_seq (CW_region ?_)
  simp only [zZ, reduceIte, Nat.reduceLT, Int.reduceToNat, Int.reduceLE, Int.reduceEq, Int.reduceLT, Nat.reduceEqDiff, Nat.reduceAdd, zTy, hal]
  refine CW_seq (CW_region ?_)
  simp only [zZ, reduceIte, Nat.reduceLT, Int.reduceToNat, Int.reduceLE, Int.reduceEq, Int.reduceLT, Nat.reduceEqDiff, Nat.reduceAdd, zTy, hal, build_rscr0, scrV]
  refine CW_seq (CW_seq (CW_region ?_))
  by_cases h5 : n = 5
  case' neg =>
    have z0 : ((n : Int) != 5) = true := by rw [bne_iff_ne]; omega
    simp only [zZ, reduceIte, Nat.reduceLT, Int.reduceToNat, Int.reduceLE, Int.reduceEq, Int.reduceLT, Nat.reduceEqDiff, Nat.reduceAdd, zTy, z0]
    refine CW_cond true (by rfl) (fun _ => CW_seq (CW_region ?_)) (fun h => by cases h)
    simp only [zZ, reduceIte, Nat.reduceLT, Int.reduceToNat, Int.reduceLE, Int.reduceEq, Int.reduceLT, Nat.reduceEqDiff, Nat.reduceAdd, zTy]
    refine CW_ret ?_
    simp only [zZ, reduceIte, Nat.reduceLT, Int.reduceToNat, Int.reduceLE, Int.reduceEq, Int.reduceLT, Nat.reduceEqDiff, Nat.reduceAdd, zTy, bEnd, sAnswer, sAnswer.sRes, aLoad_g]
    refine told _ _ _ _ _ _ ?_
    rw [hR]
    match ws, hn with
    | [], _ => rfl
    | [_], _ => rfl
    | [_, _], _ => rfl
    | [_, _, _], _ => rfl
    | [_, _, _, _], _ => rfl
    | [_, _, _, _, _], h => exact absurd h.symm h5
    | _ :: _ :: _ :: _ :: _ :: _ :: _, _ => rfl
  subst h5
  obtain ⟨w0, w1, w2, w3, w4, rfl⟩ : ∃ w0 w1 w2 w3 w4, ws = [w0, w1, w2, w3, w4] := by
    match ws, hn with
    | [w0, w1, w2, w3, w4], _ => exact ⟨w0, w1, w2, w3, w4, rfl⟩
  have hcs : sC [w0, w1, w2, w3, w4] = [.string (str w0), .string (str w1), .string (str w2), .string (str w3), .string (str w4)] := rfl
  rw [hcs] at hgl
  have b0 : beqB (str w0) ⟨#[119, 111, 114, 108, 100]⟩ = decide (w0 = wordWorld) := beqB_str w0 _
  have z0 : ((5 : Int) != 5) = false := rfl
  have l5 : ((5 : Nat) : Int) = 5 := rfl
  cases c0 : decide (w0 = wordWorld)
  case' false =>
    simp only [zZ, reduceIte, Nat.reduceLT, Int.reduceToNat, Int.reduceLE, Int.reduceEq, Int.reduceLT, Nat.reduceEqDiff, Nat.reduceAdd, zTy, z0, l5, hgl, b0, c0]
    refine CW_cond true (by rfl) (fun _ => CW_seq (CW_region ?_)) (fun h => by cases h)
    simp only [zZ, reduceIte, Nat.reduceLT, Int.reduceToNat, Int.reduceLE, Int.reduceEq, Int.reduceLT, Nat.reduceEqDiff, Nat.reduceAdd, zTy]
    refine CW_ret ?_
    simp only [zZ, reduceIte, Nat.reduceLT, Int.reduceToNat, Int.reduceLE, Int.reduceEq, Int.reduceLT, Nat.reduceEqDiff, Nat.reduceAdd, zTy, bEnd, sAnswer, sAnswer.sRes, aLoad_g]
    exact told _ _ _ _ _ _ (by rw [hR, rworldV, if_neg (of_decide_eq_false c0)])
  have hR1 : R = (((numR w1 13 1024).1, (numR w2 13 1024).1, (numR w3 0 1000).1, (numR w4 0 64).1), (numR w1 13 1024).2 && (numR w2 13 1024).2 && (numR w3 0 1000).2 && (numR w4 0 64).2) := by
    rw [hR, rworldV, if_pos (of_decide_eq_true c0)]
  simp only [zZ, reduceIte, Nat.reduceLT, Int.reduceToNat, Int.reduceLE, Int.reduceEq, Int.reduceLT, Nat.reduceEqDiff, Nat.reduceAdd, zTy, z0, l5, hgl, b0, c0]
  refine CW_cond false (by rfl) (fun h => by cases h) (fun _ => CW_skip ?_)
  simp only [zZ, reduceIte, Nat.reduceLT, Int.reduceToNat, Int.reduceLE, Int.reduceEq, Int.reduceLT, Nat.reduceEqDiff, Nat.reduceAdd]
  refine CW_seq (CW_region ?_)
  simp only [zZ, reduceIte, Nat.reduceLT, Int.reduceToNat, Int.reduceLE, Int.reduceEq, Int.reduceLT, Nat.reduceEqDiff, Nat.reduceAdd, zTy, l5, hgl]
  refine ⟨by kernel_rfl, _, rnumber_spec w1 13 1024 (by omega) (by omega) _, ?_⟩
  rintro _ _ ⟨rfl, rfl⟩
  simp only [zZ, reduceIte, Nat.reduceLT, Int.reduceToNat, Int.reduceLE, Int.reduceEq, Int.reduceLT, Nat.reduceEqDiff, Nat.reduceAdd, zTy]
  refine CW_seq (CW_region ?_)
  simp only [zZ, reduceIte, Nat.reduceLT, Int.reduceToNat, Int.reduceLE, Int.reduceEq, Int.reduceLT, Nat.reduceEqDiff, Nat.reduceAdd, zTy, l5, hgl]
  refine ⟨by kernel_rfl, _, rnumber_spec w2 13 1024 (by omega) (by omega) _, ?_⟩
  rintro _ _ ⟨rfl, rfl⟩
  simp only [zZ, reduceIte, Nat.reduceLT, Int.reduceToNat, Int.reduceLE, Int.reduceEq, Int.reduceLT, Nat.reduceEqDiff, Nat.reduceAdd, zTy]
  refine CW_seq (CW_region ?_)
  simp only [zZ, reduceIte, Nat.reduceLT, Int.reduceToNat, Int.reduceLE, Int.reduceEq, Int.reduceLT, Nat.reduceEqDiff, Nat.reduceAdd, zTy, l5, hgl]
  refine ⟨by kernel_rfl, _, rnumber_spec w3 0 1000 (by omega) (by omega) _, ?_⟩
  rintro _ _ ⟨rfl, rfl⟩
  simp only [zZ, reduceIte, Nat.reduceLT, Int.reduceToNat, Int.reduceLE, Int.reduceEq, Int.reduceLT, Nat.reduceEqDiff, Nat.reduceAdd, zTy]
  refine CW_seq (CW_region ?_)
  simp only [zZ, reduceIte, Nat.reduceLT, Int.reduceToNat, Int.reduceLE, Int.reduceEq, Int.reduceLT, Nat.reduceEqDiff, Nat.reduceAdd, zTy, l5, hgl]
  refine ⟨by kernel_rfl, _, rnumber_spec w4 0 64 (by omega) (by omega) _, ?_⟩
  rintro _ _ ⟨rfl, rfl⟩
  simp only [zZ, reduceIte, Nat.reduceLT, Int.reduceToNat, Int.reduceLE, Int.reduceEq, Int.reduceLT, Nat.reduceEqDiff, Nat.reduceAdd, zTy]
  generalize numR w1 13 1024 = r1 at hR1 ⊢
  generalize numR w2 13 1024 = r2 at hR1 ⊢
  generalize numR w3 0 1000 = r3 at hR1 ⊢
  generalize numR w4 0 64 = r4 at hR1 ⊢
  obtain ⟨a, o1⟩ := r1
  obtain ⟨b, o2⟩ := r2
  obtain ⟨c, o3⟩ := r3
  obtain ⟨d, o4⟩ := r4
  simp only at hR1
  refine CW_seq (CW_region ?_)
  cases o1 <;> cases o2 <;> cases o3 <;> cases o4 <;> simp only [zZ, reduceIte, Nat.reduceLT, Int.reduceToNat, Int.reduceLE, Int.reduceEq, Int.reduceLT, Nat.reduceEqDiff, Nat.reduceAdd, zTy, build_rscr4, scrV]
  all_goals
    refine CW_ret ?_
    simp only [zZ, reduceIte, Nat.reduceLT, Int.reduceToNat, Int.reduceLE, Int.reduceEq, Int.reduceLT, Nat.reduceEqDiff, Nat.reduceAdd, zTy, bEnd, sAnswer, sAnswer.sRes, aLoad_g]
    exact told _ _ _ _ _ _ hR1
end Go.Proofs.YthcleiegefhmdaaGreatDoor
namespace Go.Proofs.YthcleiegefhmdaaGreatDoor
open Go.RowKit Abs
theorem numQ_eq (l : List UInt8) (a b : Int) (h0 : -1 ≤ a) (h1 : a ≤ b) (h2 : 0 ≤ b) (h3 : b ≤ 9223372036854775807) : numQ l a b = if (numR l a b).2 = true then some (numR l a b).1 else none := by
  obtain ⟨g1, g2⟩ := num_tie l a b h0 h1 h2 h3
  unfold numQ
  rw [← g1]
  by_cases h : (numP l a b).2 = true
  · rw [if_pos h, if_pos h, g2 h]
  · rw [if_neg h, if_neg h]
def StepR (m : Mem) (r : Option (StepL × Nat)) (x : StepL) (V : Value) (ok : Bool) (M : Mem) : Prop :=
  Keeps m.size m M ∧ m.size ≤ M.size ∧ FilesAt M V x.files ∧ match r with
    | none => ok = false
    | some y => ok = true ∧ x = y.1
def RPackR (m : Mem) (r : Option (StepL × Nat)) (u : Value) (M : Mem) : Prop := ∃ x V ok, u = .tuple #[.agg (stepC (x, V)).toArray, .bool ok] ∧ StepR m r x V ok M
theorem build_step0 : aBuild Tryz.prog 52 [] = some (.agg #[.int .i64 0, .int .i64 0, .slice none 0 0, .string ⟨#[]⟩, .bool false, .int .i64 0, .int .i64 0]) := by kernel_rfl
theorem cut1_find (c : UInt8) (w : List UInt8) (t : Nat) (h : ¬ c ∈ w.take t) (ht : w[t]? = some c) : cut1 c w [] = (w.take t, w.drop (t + 1), true) := by
  have hl := (List.getElem?_eq_some_iff.1 ht).1
  have e : w = w.take t ++ c :: w.drop (t + 1) := by
    have := List.take_append_drop t w
    rw [List.drop_eq_getElem_cons hl, (List.getElem?_eq_some_iff.1 ht).2] at this
    exact this.symm
  conv => lhs; rw [e]
  rw [cut1_at c _ _ _ h]
  simp
set_option maxRecDepth 100000 in
set_option maxHeartbeats 4000000 in
theorem rpack_spec (ws : List (List UInt8)) (g n : Nat) (ro : Bool) (m : Mem) (hg : m.get g = some (.cells ro 1 (sC ws))) (hn : ws.length = n) (hn1 : 1 ≤ n) (hs : ∀ w ∈ ws, w.length ≤ 900000) (hn2 : n ≤ 900000) :
    Abs.Spec Tryz.prog 30 [.slice (some ⟨g, 0, none⟩) n n] m (RPackR m (packOf ws.tail)) := by
  refine Abs.Spec.walkM Tryz.func30 (by rfl) _ Tryz.results30 _ Tryz.ntmps30 (by simp) ?_
  intro hc hx k
  obtain ⟨R, hR⟩ : ∃ R, R = packOf ws.tail := ⟨_, rfl⟩
  rw [← hR]
  have hal := al_Step
  generalize aStride Tryz.prog 52 = s1 at hal
  have grow : ∀ M, (∀ b x, b < m.size → m.get b = some x → M.get b = some x) → Keeps m.size m M ∧ M.get g = some (.cells ro 1 (sC ws)) := fun M h => ⟨⟨fun b x _ hx => h b x (get_live hx) hx, fun b s cs hx => h b _ (get_live hx) hx⟩, h g _ (get_live hg) hg⟩
  have no : ∀ (M : Mem) (V : Value) (fs : List FileL), R = none → (∀ b x, b < m.size → m.get b = some x → M.get b = some x) → m.size ≤ M.size → (∃ M', Thin M M' ∧ (∀ b x, b < m.size → m.get b = some x → M'.get b = some x) ∧ M'.size = M.size ∧ FilesAt M' V fs) →
      ∃ m', Thin M m' ∧ RPackR m R (.tuple #[.agg #[.int .i64 0, .int .i64 0, V, .string ⟨#[]⟩, .bool false, .int .i64 0, .int .i64 0], .bool false]) m' := fun M V fs h h1 h2 h3 => by
    obtain ⟨M', h4, h5, h6, h7⟩ := h3
    exact ⟨M', h4, ⟨0, 0, fs, [], false, 0, 0⟩, V, false, rfl, (grow M' h5).1, by omega, h7, by rw [h]⟩
  have thin : ∀ (M : Mem) (V : Value) (fs : List FileL), (∀ b x, b < m.size → m.get b = some x → M.get b = some x) → FilesOwn (m.size + 1) M V fs → fs.length ≤ 1000000 → ∃ M', Thin M M' ∧ (∀ b x, b < m.size → m.get b = some x → M'.get b = some x) ∧ M'.size = M.size ∧ FilesAt M' V fs ∧ ∀ b, b ≤ m.size + 1 → M'.get b = M.get b := fun M V fs h1 h2 h3 => by
    rcases h2 with ⟨rfl, rfl⟩ | ⟨hf0, h', hh, rfl, hgh⟩
    · exact ⟨M, Thin.refl _, h1, rfl, FilesAt.nil M, fun _ _ => rfl⟩
    · refine ⟨fz1 h' M, fz1_thin _ _, fun b x hb hx => by rw [fz1_ne (by omega)]; exact h1 b x hb hx, by unfold fz1; rw [hgh]; simp only [Mem.size_set], ⟨some ⟨h', 0, none⟩, fs.length, rfl, Nat.le_refl _, by unfold maxLen; omega, (fun e => by cases e), (fun q hq => by cases hq; exact ⟨h', rfl, fun _ => fz1_get hgh⟩)⟩, fun b hb => fz1_ne (by omega)⟩
  refine CW_seq (CW_region ?_)
  simp only [zZ, reduceIte, Nat.reduceLT, Int.reduceToNat, Int.reduceLE, Int.reduceEq, Int.reduceLT, Nat.reduceEqDiff, Nat.reduceAdd, zTy, hal]
  refine CW_seq (CW_region ?_)
  obtain ⟨M0, hM0⟩ : ∃ M0, M0 = (m.push (.cells false s1 [.int .i64 0, .int .i64 0, .slice none 0 0, .string ⟨#[]⟩, .bool false, .int .i64 0, .int .i64 0])).push (.cells false s1 [.int .i64 0, .int .i64 0, .slice none 0 0, .string ⟨#[]⟩, .bool false, .int .i64 0, .int .i64 0]) := ⟨_, rfl⟩
  have push_set2 : ∀ (B C D : Blk), ((m.push B).push C).set (m.size + 1) (some D) = (m.push B).push D := fun B C D => by
    have := push_set (m.push B) C D
    rw [Mem.size_push] at this
    exact this
  have push_get2 : ∀ (B C : Blk), ((m.push B).push C).get (m.size + 1) = some C := fun B C => by
    have := Mem.get_push_new (m.push B) C
    rw [Mem.size_push] at this
    exact this
  simp only [zZ, reduceIte, Nat.reduceLT, Int.reduceToNat, Int.reduceLE, Int.reduceEq, Int.reduceLT, Nat.reduceEqDiff, Nat.reduceAdd, zTy, hal, build_step0, Mem.size_push, push_get2, push_set2]
  rw [← hM0]
  have hs0 : M0.size = m.size + 2 := by rw [hM0, Mem.size_push, Mem.size_push]
  have hold0 : ∀ b x, b < m.size → m.get b = some x → M0.get b = some x := fun b x hb hx => by rw [hM0, Mem.get_push_old (by rw [Mem.size_push]; omega), Mem.get_push_old hb]; exact hx
  have hr0 : M0.get m.size = some (.cells false s1 [.int .i64 0, .int .i64 0, .slice none 0 0, .string ⟨#[]⟩, .bool false, .int .i64 0, .int .i64 0]) := by rw [hM0, Mem.get_push_old (by rw [Mem.size_push]; omega), Mem.get_push_new]
  have hx0 : M0.get (m.size + 1) = some (.cells false s1 [.int .i64 0, .int .i64 0, .slice none 0 0, .string ⟨#[]⟩, .bool false, .int .i64 0, .int .i64 0]) := by rw [hM0]; exact push_get2 _ _
  clear hM0
  have hput : ∀ (M : Mem) (V : Value) (a : Option Addr) (l c : Nat), V = .slice a l c → M.get m.size = some (.cells false s1 [.int .i64 0, .int .i64 0, .slice none 0 0, .string ⟨#[]⟩, .bool false, .int .i64 0, .int .i64 0]) →
      putIn 7 M m.size 0 [.int .i64 0, .int .i64 0, V, .string ⟨#[]⟩, .bool false, .int .i64 0, .int .i64 0] (M.get m.size) = some (M.set m.size (some (.cells false s1 [.int .i64 0, .int .i64 0, V, .string ⟨#[]⟩, .bool false, .int .i64 0, .int .i64 0]))) := fun M V a l c hV h => by rw [h, hV]; rfl
  refine CW_seq (CW_seq (CW_region ?_))
  simp only [zZ, reduceIte, Nat.reduceLT, Int.reduceToNat, Int.reduceLE, Int.reduceEq, Int.reduceLT, Nat.reduceEqDiff, Nat.reduceAdd, zTy]
  refine CW_block (MW_loop (fun j f M => ∃ (t : Nat) (fs : List FileL) (V : Value), t + j = n ∧ 1 ≤ t ∧ fs.length + 1 = t ∧ filesOf ws.tail = (filesOf (ws.drop t)).map (fs ++ ·) ∧ f = [(0, .slice (some ⟨g, 0, none⟩) n n), (2, .pointer (some ⟨m.size, 0, none⟩)), (4, .pointer (some ⟨m.size + 1, 0, none⟩)), (5, .int .i64 (t : Nat))] ∧
    (∀ b x, b < m.size → m.get b = some x → M.get b = some x) ∧ m.size + 1 < M.size ∧ M.get m.size = some (.cells false s1 [.int .i64 0, .int .i64 0, .slice none 0 0, .string ⟨#[]⟩, .bool false, .int .i64 0, .int .i64 0]) ∧
    M.get (m.size + 1) = some (.cells false s1 [.int .i64 0, .int .i64 0, V, .string ⟨#[]⟩, .bool false, .int .i64 0, .int .i64 0]) ∧ FilesOwn (m.size + 1) M V fs) (n - 1) ?_ ?_)
  · refine ⟨[0, 2, 4, 5], ?_⟩
    simp only [zZ, reduceIte, Nat.reduceLT, Int.reduceToNat, Int.reduceLE, Int.reduceEq, Int.reduceLT, Nat.reduceEqDiff, Nat.reduceAdd, keepF]
    exact ⟨_, Thin.refl _, 1, [], _, by omega, by omega, rfl, by rw [List.drop_one]; simp, rfl, hold0, by omega, hr0, hx0, .inl ⟨rfl, rfl⟩⟩
  · rintro j f M ⟨t, fs, V, htj, ht1, hft, hun, rfl, hold, hms, hr, hbx, hfo⟩
    obtain ⟨hkM, hgM⟩ := grow M hold
    have hfl : fs.length ≤ 1000000 := by omega
    obtain ⟨va, vl, vc, hva⟩ : ∃ a l c, V = .slice a l c := by
      rcases hfo with ⟨_, h⟩ | ⟨_, g, _, h, _⟩
      · exact ⟨_, _, _, h⟩
      · exact ⟨_, _, _, h⟩
    refine CW_seq (CW_seq (CW_region ?_))
    simp only [zZ, reduceIte, Nat.reduceLT, Int.reduceToNat, Int.reduceLE, Int.reduceEq, Int.reduceLT, Nat.reduceEqDiff, Nat.reduceAdd, zTy]
    refine CW_cond (decide ((t : Int) < (n : Int))) (by rfl) (fun h => CW_skip ?_) (fun h => CW_exit ?_)
    · simp only [zZ, reduceIte, Nat.reduceLT, Int.reduceToNat, Int.reduceLE, Int.reduceEq, Int.reduceLT, Nat.reduceEqDiff, Nat.reduceAdd]
      have htl : t < n := by have := of_decide_eq_true h; omega
      have h0 : (0 : Int) ≤ (t : Int) := by omega
      have h1 : (t : Int) < (n : Int) := by omega
      obtain ⟨w, hw⟩ : ∃ w, ws[t]? = some w := ⟨_, List.getElem?_eq_getElem (by omega)⟩
      have aw := get_str ws t w hw
      have hws := hs w (List.mem_of_getElem? hw)
      have dw := drop_get hw
      have hxi : IntKind.i64.wrap ((t : Int) + 1) = ((t + 1 : Nat) : Int) := by rw [wr (by omega) (by omega)]; omega
      have bad : fileOf w = none → R = none := fun h => by rw [hR, packOf, hun, dw, filesOf, h]; rfl
      have badT : fileOf w = none → ∀ s2 : Value, s2 = V → ∃ m', Thin (M.set m.size (some (.cells false s1 [.int .i64 0, .int .i64 0, V, .string ⟨#[]⟩, .bool false, .int .i64 0, .int .i64 0]))) m' ∧ RPackR m R (.tuple #[.agg #[.int .i64 0, .int .i64 0, V, .string ⟨#[]⟩, .bool false, .int .i64 0, .int .i64 0], .bool false]) m' := fun h _ _ => by
        have hold2 : ∀ b x, b < m.size → m.get b = some x → (M.set m.size (some (.cells false s1 [.int .i64 0, .int .i64 0, V, .string ⟨#[]⟩, .bool false, .int .i64 0, .int .i64 0]))).get b = some x := fun b x hb hx => by rw [Mem.get_set_ne (by omega)]; exact hold b x hb hx
        refine no _ V fs (bad h) hold2 (by rw [Mem.size_set]; omega) ?_
        obtain ⟨M', g1, g2, g3, g4, _⟩ := thin _ V fs hold2 (by
          rcases hfo with h | ⟨h5, g, h6, h7, h8⟩
          · exact .inl h
          · exact .inr ⟨h5, g, h6, h7, by rw [Mem.get_set_ne (by omega)]; exact h8⟩) hfl
        exact ⟨M', g1, g2, g3, g4⟩
      refine CW_seq (CW_block (CW_seq (CW_region ?_)))
      simp only [zZ, reduceIte, Nat.reduceLT, Int.reduceToNat, Int.reduceLE, Int.reduceEq, Int.reduceLT, Nat.reduceEqDiff, Nat.reduceAdd, zTy]
      -- up to the colon
      refine MW_mid (fun f M' => ∃ u : Nat, M' = M ∧ u ≤ w.length ∧ ¬ 58 ∈ w.take u ∧ (u < w.length → w[u]? = some 58) ∧ f = [(0, .slice (some ⟨g, 0, none⟩) n n), (2, .pointer (some ⟨m.size, 0, none⟩)), (4, .pointer (some ⟨m.size + 1, 0, none⟩)), (5, .int .i64 (t : Nat)), (6, .int .i64 (u : Nat))]) ?_ ?_
      · refine CW_block (MW_loop (fun j f M' => ∃ u : Nat, M' = M ∧ u + j = w.length ∧ ¬ 58 ∈ w.take u ∧ f = [(0, .slice (some ⟨g, 0, none⟩) n n), (2, .pointer (some ⟨m.size, 0, none⟩)), (4, .pointer (some ⟨m.size + 1, 0, none⟩)), (5, .int .i64 (t : Nat)), (6, .int .i64 (u : Nat))]) w.length ?_ ?_)
        · refine ⟨[0, 2, 4, 5, 6], ?_⟩
          simp only [zZ, reduceIte, Nat.reduceLT, Int.reduceToNat, Int.reduceLE, Int.reduceEq, Int.reduceLT, Nat.reduceEqDiff, Nat.reduceAdd, keepF]
          exact ⟨M, Thin.refl _, 0, rfl, by omega, by simp, rfl⟩
        · rintro j2 f M2 ⟨u, hM2, huj, hno, rfl⟩
          subst hM2
          have hui : IntKind.i64.wrap ((u : Int) + 1) = ((u + 1 : Nat) : Int) := by rw [wr (by omega) (by omega)]; omega
          refine CW_seq (CW_seq (CW_region ?_))
          cases c1 : decide ((u : Int) < (w.length : Int))
          · simp only [zZ, reduceIte, Nat.reduceLT, Int.reduceToNat, Int.reduceLE, Int.reduceEq, Int.reduceLT, Nat.reduceEqDiff, Nat.reduceAdd, zTy, h0, h1, and_self, hgM, aw, bsize_str, c1]
            refine CW_cond false (by rfl) (fun h => by cases h) (fun _ => CW_exit ?_)
            simp only [zZ, reduceIte, Nat.reduceLT, Int.reduceToNat, Int.reduceLE, Int.reduceEq, Int.reduceLT, Nat.reduceEqDiff, Nat.reduceAdd]
            refine ⟨[0, 2, 4, 5, 6], ?_⟩
            simp only [zZ, reduceIte, Nat.reduceLT, Int.reduceToNat, Int.reduceLE, Int.reduceEq, Int.reduceLT, Nat.reduceEqDiff, Nat.reduceAdd, keepF]
            have := of_decide_eq_false c1
            exact ⟨_, Thin.refl _, u, rfl, by omega, hno, fun h => by omega, rfl⟩
          · have hul := of_decide_eq_true c1
            obtain ⟨b, hb⟩ : ∃ b, w[u]? = some b := ⟨_, List.getElem?_eq_getElem (by omega)⟩
            have ib := idx_str w u b hb
            have e58 : ((b.toNat : Int) != 58) = !decide (b = 58) := congrArg (!·) (u8_eql b 58)
            simp only [zZ, reduceIte, Nat.reduceLT, Int.reduceToNat, Int.reduceLE, Int.reduceEq, Int.reduceLT, Nat.reduceEqDiff, Nat.reduceAdd, zTy, h0, h1, and_self, hgM, aw, bsize_str, c1, ib, e58]
            refine CW_cond (!decide (b = 58)) (by rfl) (fun h => CW_skip ?_) (fun h => CW_exit ?_)
            · simp only [zZ, reduceIte, Nat.reduceLT, Int.reduceToNat, Int.reduceLE, Int.reduceEq, Int.reduceLT, Nat.reduceEqDiff, Nat.reduceAdd]
              refine CW_block (CW_region ?_)
              simp only [zZ, reduceIte, Nat.reduceLT, Int.reduceToNat, Int.reduceLE, Int.reduceEq, Int.reduceLT, Nat.reduceEqDiff, Nat.reduceAdd, zTy, hui]
              refine ⟨[0, 2, 4, 5, 6], ?_⟩
              simp only [zZ, reduceIte, Nat.reduceLT, Int.reduceToNat, Int.reduceLE, Int.reduceEq, Int.reduceLT, Nat.reduceEqDiff, Nat.reduceAdd, keepF]
              refine ⟨_, Thin.refl _, j2 - 1, ⟨u + 1, rfl, by omega, ?_, rfl⟩, by omega⟩
              rw [List.take_add_one, hb]
              simp only [Option.toList, List.mem_append, List.mem_singleton]
              rintro (h' | h')
              · exact hno h'
              · rw [← h'] at h; simp at h
            · simp only [zZ, reduceIte, Nat.reduceLT, Int.reduceToNat, Int.reduceLE, Int.reduceEq, Int.reduceLT, Nat.reduceEqDiff, Nat.reduceAdd]
              refine ⟨[0, 2, 4, 5, 6], ?_⟩
              simp only [zZ, reduceIte, Nat.reduceLT, Int.reduceToNat, Int.reduceLE, Int.reduceEq, Int.reduceLT, Nat.reduceEqDiff, Nat.reduceAdd, keepF]
              exact ⟨_, Thin.refl _, u, rfl, by omega, hno, fun _ => by rw [hb]; simp at h; rw [h], rfl⟩
      · rintro f M2 ⟨u, hM2, hul, hno, hat, rfl⟩
        subst hM2
        refine CW_seq (CW_seq (CW_region ?_))
        simp only [zZ, reduceIte, Nat.reduceLT, Int.reduceToNat, Int.reduceLE, Int.reduceEq, Int.reduceLT, Nat.reduceEqDiff, Nat.reduceAdd, zTy, h0, h1, and_self, hgM, aw, bsize_str]
        refine CW_cond ((u : Int) == (w.length : Int)) (by rfl) (fun h => CW_seq (CW_region ?_)) (fun h => CW_skip ?_)
        · have hu : u = w.length := by rw [beq_iff_eq] at h; omega
          have hcut : cut1 58 w [] = (w, [], false) := by
            rw [hu, List.take_length] at hno
            have := cut1_not 58 w [] hno
            simpa using this
          have hpu := hput M2 V va vl vc hva hr
          simp only [zZ, reduceIte, Nat.reduceLT, Int.reduceToNat, Int.reduceLE, Int.reduceEq, Int.reduceLT, Nat.reduceEqDiff, Nat.reduceAdd, zTy, hbx, hpu]
          refine CW_ret ?_
          simp only [zZ, reduceIte, Nat.reduceLT, Int.reduceToNat, Int.reduceLE, Int.reduceEq, Int.reduceLT, Nat.reduceEqDiff, Nat.reduceAdd, zTy, mEnd, sAnswer, sAnswer.sRes, aLoad_g, Mem.get_set_same hr]
          exact badT (by unfold fileOf; rw [hcut]; rfl) V rfl
        have hu : u < w.length := by rw [beq_eq_false_iff_ne] at h; omega
        have hcut := cut1_find 58 w u hno (hat hu)
        have hu1 : IntKind.i64.wrap ((u : Int) + 1) = ((u + 1 : Nat) : Int) := by rw [wr (by omega) (by omega)]; omega
        have sl1 : ∀ get : Nat → Option Blk, gSlice Tryz.prog get 9 (.string (str w)) none (some (.int .i64 (u : Nat))) = some (.string (str (w.take u))) := fun get => by
          rw [slice_str (str w) _ (by omega) (by rw [bsize_str]; omega), Int.toNat_natCast]; rfl
        have sl2 := fun get => slice_tail get w (u + 1) (by omega)
        simp only [zZ, reduceIte, Nat.reduceLT, Int.reduceToNat, Int.reduceLE, Int.reduceEq, Int.reduceLT, Nat.reduceEqDiff, Nat.reduceAdd]
        refine CW_seq (CW_region ?_)
        simp only [zZ, reduceIte, Nat.reduceLT, Int.reduceToNat, Int.reduceLE, Int.reduceEq, Int.reduceLT, Nat.reduceEqDiff, Nat.reduceAdd, zTy, h0, h1, and_self, hgM, aw, sl1]
        refine ⟨by kernel_rfl, _, rbytes_spec (w.take u) (by rw [List.length_take]; omega) _, ?_⟩
        rintro _ M9 ⟨rfl, e9⟩
        replace e9 := e9.symm
        subst e9
        simp only [zZ, reduceIte, Nat.reduceLT, Int.reduceToNat, Int.reduceLE, Int.reduceEq, Int.reduceLT, Nat.reduceEqDiff, Nat.reduceAdd, zTy]
        refine CW_seq (CW_region ?_)
        simp only [zZ, reduceIte, Nat.reduceLT, Int.reduceToNat, Int.reduceLE, Int.reduceEq, Int.reduceLT, Nat.reduceEqDiff, Nat.reduceAdd, zTy, h0, h1, and_self, hgM, aw, hu1, sl2]
        refine ⟨by kernel_rfl, _, rbytes_spec (w.drop (u + 1)) (by rw [List.length_drop]; omega) _, ?_⟩
        rintro _ M9 ⟨rfl, e9⟩
        replace e9 := e9.symm
        subst e9
        simp only [zZ, reduceIte, Nat.reduceLT, Int.reduceToNat, Int.reduceLE, Int.reduceEq, Int.reduceLT, Nat.reduceEqDiff, Nat.reduceAdd, zTy]
        have hfile : fileOf w = if (unhexV (w.take u)).2 = true ∧ (unhexV (w.drop (u + 1))).2 = true then some ((unhexV (w.take u)).1, (unhexV (w.drop (u + 1))).1) else none := by unfold fileOf; rw [hcut]; simp
        obtain ⟨u1, o1, hq1⟩ : ∃ u1 o1, unhexV (w.take u) = (u1, o1) := ⟨_, _, rfl⟩
        obtain ⟨u2, o2, hq2⟩ : ∃ u2 o2, unhexV (w.drop (u + 1)) = (u2, o2) := ⟨_, _, rfl⟩
        rw [hq1, hq2] at hfile ⊢
        simp only at hfile ⊢
        refine CW_seq (CW_seq (CW_region ?_))
        cases o1 <;> cases o2 <;> simp only [zZ, reduceIte, Nat.reduceLT, Int.reduceToNat, Int.reduceLE, Int.reduceEq, Int.reduceLT, Nat.reduceEqDiff, Nat.reduceAdd, zTy]
        case' true.true =>
          have hfile : fileOf w = some (u1, u2) := hfile
          refine CW_cond false (by rfl) (fun h => by cases h) (fun _ => CW_skip ?_)
          simp only [zZ, reduceIte, Nat.reduceLT, Int.reduceToNat, Int.reduceLE, Int.reduceEq, Int.reduceLT, Nat.reduceEqDiff, Nat.reduceAdd]
          refine CW_region ?_
          obtain ⟨M', ha1, hs1, hg1, hold1⟩ := fapp hfo hms (by omega) (u1, u2)
          simp only at ha1
          have hbx1 := hold1 (m.size + 1) _ (Nat.le_refl _) hbx
          have hr1 := hold1 m.size _ (by omega) hr
          simp only [zZ, reduceIte, Nat.reduceLT, Int.reduceToNat, Int.reduceLE, Int.reduceEq, Int.reduceLT, Nat.reduceEqDiff, Nat.reduceAdd, zTy, hbx, build_file, new_file1, ha1, hbx1]
          refine CW_region ?_
          simp only [zZ, reduceIte, Nat.reduceLT, Int.reduceToNat, Int.reduceLE, Int.reduceEq, Int.reduceLT, Nat.reduceEqDiff, Nat.reduceAdd, zTy, hxi]
          refine ⟨[0, 2, 4, 5], ?_⟩
          simp only [zZ, reduceIte, Nat.reduceLT, Int.reduceToNat, Int.reduceLE, Int.reduceEq, Int.reduceLT, Nat.reduceEqDiff, Nat.reduceAdd, keepF]
          refine ⟨_, Thin.refl _, j - 1, ⟨t + 1, fs ++ [(u1, u2)], _, by omega, by omega, by simp; omega, ?_, rfl, fun b x hb hx => ?_, by rw [Mem.size_set]; omega, by rw [Mem.get_set_ne (by omega)]; exact hr1, Mem.get_set_same hbx1 _, .inr ⟨by simp, M2.size + 1, by omega, by simp, ?_⟩⟩, by omega⟩
          · rw [hun, dw, filesOf, hfile, Option.map_map]
            cases filesOf (ws.drop (t + 1)) <;> simp
          · rw [Mem.get_set_ne (by omega)]
            exact hold1 b x (by omega) (hold b x hb hx)
          · rw [Mem.get_set_ne (by omega)]; exact hg1
        all_goals
          refine CW_cond true (by rfl) (fun _ => CW_seq (CW_region ?_)) (fun h => by cases h)
          have hpu := hput M2 V va vl vc hva hr
          simp only [zZ, reduceIte, Nat.reduceLT, Int.reduceToNat, Int.reduceLE, Int.reduceEq, Int.reduceLT, Nat.reduceEqDiff, Nat.reduceAdd, zTy, hbx, hpu]
          refine CW_ret ?_
          simp only [zZ, reduceIte, Nat.reduceLT, Int.reduceToNat, Int.reduceLE, Int.reduceEq, Int.reduceLT, Nat.reduceEqDiff, Nat.reduceAdd, zTy, mEnd, sAnswer, sAnswer.sRes, aLoad_g, Mem.get_set_same hr]
          exact badT (by rw [hfile]; rfl) V rfl
    · simp only [zZ, reduceIte, Nat.reduceLT, Int.reduceToNat, Int.reduceLE, Int.reduceEq, Int.reduceLT, Nat.reduceEqDiff, Nat.reduceAdd]
      have htl : t = n := by have := of_decide_eq_false h; omega
      have hdn : ws.drop t = [] := List.drop_eq_nil_of_le (by omega)
      rw [hdn, filesOf] at hun
      have hun : filesOf ws.tail = some fs := by rw [hun]; simp
      have hR1 : R = if checkV fs = 0 then some (⟨0, 0, fs, [], false, 0, 0⟩, 1) else none := by rw [hR, packOf, hun]
      obtain ⟨M1, hth, hold1, hms1, hfa, hsame⟩ := thin M V fs hold hfo hfl
      refine CW_thin hth ?_
      have hbx1 : M1.get (m.size + 1) = some (.cells false s1 [.int .i64 0, .int .i64 0, V, .string ⟨#[]⟩, .bool false, .int .i64 0, .int .i64 0]) := by rw [hsame _ (by omega)]; exact hbx
      have hr1 : M1.get m.size = some (.cells false s1 [.int .i64 0, .int .i64 0, .slice none 0 0, .string ⟨#[]⟩, .bool false, .int .i64 0, .int .i64 0]) := by rw [hsame _ (by omega)]; exact hr
      obtain ⟨va, vc, hva, _⟩ := id hfa
      have hfm := filesOf_mem hun
      have hfl2 : ∀ f ∈ fs, f.1.length ≤ 999999 := fun f hf => by
        obtain ⟨w, hw, he⟩ := hfm.2 f hf
        have := fileOf_len he
        have := hs w (List.mem_of_mem_tail hw)
        omega
      subst hva
      have hpu := hput M1 (.slice va fs.length vc) va fs.length vc rfl hr1
      refine CW_seq (CW_draw4 hmix 5 [4] (by kernel_rfl) ?_)
      simp only [zZ, reduceIte, Nat.reduceLT, Int.reduceToNat, Int.reduceLE, Int.reduceEq, Int.reduceLT, Nat.reduceEqDiff, Nat.reduceAdd, zTy, hbx1]
      refine ⟨by kernel_rfl, _, rfcheck_spec fs va vc _ hfa.rd hfl2 (by omega), ?_⟩
      simp only [sQB, idleOK, List.getElem?_cons_succ, List.getElem?_cons_zero, Option.bind_some, zZ, reduceIte, Nat.reduceLT, Int.reduceToNat, Int.reduceLE, Int.reduceEq, Int.reduceLT, Nat.reduceEqDiff, Nat.reduceAdd, zTy, hpu]
      refine ⟨⟨_, rfl, rfl⟩, ?_⟩
      refine CW_ret ?_
      simp only [zZ, reduceIte, Nat.reduceLT, Int.reduceToNat, Int.reduceLE, Int.reduceEq, Int.reduceLT, Nat.reduceEqDiff, Nat.reduceAdd, zTy, mEnd, sAnswer, sAnswer.sRes, aLoad_g, Mem.get_set_same hr1]
      have hks : Keeps 0 M1 (M1.set m.size (some (.cells false s1 [.int .i64 0, .int .i64 0, .slice va fs.length vc, .string ⟨#[]⟩, .bool false, .int .i64 0, .int .i64 0]))) := Keeps.set (Nat.zero_le _) hr1 _
      refine ⟨_, Thin.refl _, ⟨0, 0, fs, [], false, 0, 0⟩, .slice va fs.length vc, _, rfl, (grow _ fun b x hb hx => by rw [Mem.get_set_ne (by omega)]; exact hold1 b x hb hx).1, by rw [Mem.size_set]; omega, hks.files hfa, ?_⟩
      rw [hR1]
      by_cases hz : checkV fs = 0
      · rw [if_pos hz]; exact ⟨by rw [hz]; rfl, rfl⟩
      · rw [if_neg hz]; simpa using hz
end Go.Proofs.YthcleiegefhmdaaGreatDoor
