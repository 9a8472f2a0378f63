/-
  The plain law: what was parsed is printed as a text that is parsed as it was.
  A text, cut.
  The walks of the document's Same, of SameSteps and same, where the two are the same.
  The law ScriptBack: what was parsed is printed as a text that is parsed as it was.
  How a card's row follows from its law's walk: the listed variables hold what the program's text lays.
-/
import Derived.Test.YthcleiegefhmdaaDoorPart09
import Derived.Test.YthcleiegefhmdaaDoorPart08
import Derived.Test.YthcleiegefhmdaaDoorPart05
import Derived.Test.YthcleiegefhmdaaDoorCards
import Derived.Test.YthcleiegefhmdaaDoorTie
import Derived.Deep.DeepHandedRow
import Derived.Lib.LaidTab
import Derived.Lib.LaidU8
import Derived.Lay
import Derived.MakeChecks
import Derived.Shelf.Vars
set_option linter.unusedSimpArgs false
set_option linter.unusedVariables false
set_option linter.unusedSectionVars false
set_option linter.unnecessarySimpa false
set_option linter.defProp false
namespace Go.Proofs.YthcleiegefhmdaaDoor
open Go.RowKit Abs
theorem join_cons2 (a b : List UInt8) (r : List (List UInt8)) (sep : List UInt8) : Lib.join (a :: b :: r) sep = a ++ sep ++ Lib.join (b :: r) sep := by
  simp [Lib.join, List.intercalate, List.intersperse, List.append_assoc]
theorem join_one (a : List UInt8) (sep : List UInt8) : Lib.join [a] sep = a := Lib.join_one a sep
theorem join_pieces (c : UInt8) : ∀ (l cur : List UInt8), Lib.join (pieces c l cur) [c] = cur ++ l
  | [], cur => by rw [pieces, join_one, List.append_nil]
  | b :: r, cur => by
    rw [pieces]
    split
    · rename_i h
      subst h
      obtain ⟨x, q, hq⟩ : ∃ x q, pieces b r [] = x :: q := by
        cases h : pieces b r [] with
        | nil => have := pieces_len b r []; rw [h] at this; simp at this
        | cons x q => exact ⟨x, q, rfl⟩
      have := join_pieces b r []
      rw [hq] at this ⊢
      rw [join_cons2, this]; simp
    · rw [join_pieces c r]; simp
theorem pieces_join (c : UInt8) : ∀ (ws : List (List UInt8)), ws ≠ [] → (∀ w ∈ ws, c ∉ w) → pieces c (Lib.join ws [c]) [] = ws
  | [], h, _ => absurd rfl h
  | [w], _, h => by rw [join_one, pieces_not c w [] (h w (by simp))]; rfl
  | w :: v :: r, _, h => by
    rw [join_cons2, List.append_assoc]
    have := pieces_at c w (Lib.join (v :: r) [c]) [] (h w (by simp))
    rw [show [c] ++ Lib.join (v :: r) [c] = c :: Lib.join (v :: r) [c] from rfl, this, pieces_join c (v :: r) (by simp) (fun x hx => h x (by simp [hx]))]
    rfl
theorem pieces_free (c : UInt8) : ∀ (l cur : List UInt8), c ∉ cur → ∀ w ∈ pieces c l cur, c ∉ w
  | [], cur, h, w, hw => by simp [pieces] at hw; subst hw; exact h
  | b :: r, cur, h, w, hw => by
    rw [pieces] at hw
    split at hw
    · rcases List.mem_cons.1 hw with rfl | hw
      · exact h
      · exact pieces_free c r [] (by simp) w hw
    · rename_i hb
      exact pieces_free c r _ (by simp [h, Ne.symm hb]) w hw
theorem dig_back : ∀ n : Fin 256, 0 ≤ digI n.val → digit (digI n.val).toNat = UInt8.ofNat n.val := by decide +kernel
theorem digit_back (b : UInt8) (h : 0 ≤ digN b) : digit (digN b).toNat = b := by
  have := dig_back ⟨b.toNat, b.toNat_lt⟩ h
  simpa [digN] using this
theorem hex_back : ∀ (l q : List UInt8), unhexL l = some q → hexL q = l
  | [], q, h => by simp [unhexL] at h; subst h; rfl
  | [_], q, h => by cases h
  | a :: b :: r, q, h => by
    rw [unhexL] at h
    split at h
    · cases h
    · rename_i hd
      split at h
      · rename_i q' hq
        cases h
        have ha := digN_lt a
        have hb := digN_lt b
        have h1 : (UInt8.ofNat (16 * digN a + digN b).toNat).toNat = (16 * digN a + digN b).toNat := by
          rw [UInt8.toNat_ofNat']; omega
        have e1 : (16 * digN a + digN b).toNat / 16 = (digN a).toNat := by omega
        have e2 : (16 * digN a + digN b).toNat % 16 = (digN b).toNat := by omega
        have := hex_back r q' hq
        unfold hexL at this ⊢
        rw [List.flatMap_cons, this, h1, e1, e2, digit_back a (by omega), digit_back b (by omega)]
        rfl
      · cases h
theorem unhexV_back (l : List UInt8) (h : (unhexV l).2 = true) : hexV (unhexV l).1 = l := by
  unfold unhexV at h ⊢
  split at h
  · rename_i h1; rw [if_pos h1, h1]; rfl
  · rename_i h1
    rw [if_neg h1]
    split at h
    · cases h
    · rename_i h2
      rw [if_neg h2]
      split at h
      · rename_i q hq
        simp only
        unfold hexV
        have := hex_back l q hq
        rw [if_neg (fun e => by subst e; exact h2 this.symm), this]
      · cases h
theorem numQ_back {l : List UInt8} {a b v : Int} (h : numQ l a b = some v) (h0 : -9223372036854775808 ≤ a) (h1 : b ≤ 9223372036854775807) : l = Lib.itoa v ∧ a ≤ v ∧ v ≤ b := by
  unfold numQ at h
  split at h
  · rename_i h2
    cases h
    refine (numP_iff l a b _ h0 h1).1 ?_
    rw [← h2]
  · cases h
theorem fileOf_back {w : List UInt8} {f : FileL} (h : fileOf w = some f) : fileW f = w := by
  unfold fileOf at h
  split at h
  · rename_i h1
    cases h
    unfold fileW
    simp only
    rw [unhexV_back _ h1.2.1, unhexV_back _ h1.2.2]
    rcases index_miss w 58 with h2 | ⟨a, b, h2, h3, _⟩
    · rw [cut1_not 58 w [] (index_not w 58 h2)] at h1
      cases h1.1
    · rw [h2, cut1_at 58 a b [] h3]
      simp
  · cases h
theorem filesOf_back : ∀ {ws : List (List UInt8)} {fs : List FileL}, filesOf ws = some fs → fs.map fileW = ws
  | [], fs, h => by cases h; rfl
  | w :: r, fs, h => by
    rw [filesOf] at h
    split at h
    · cases h
    · rename_i f hf
      rw [Option.map_eq_some_iff] at h
      obtain ⟨q, h1, rfl⟩ := h
      rw [List.map_cons, fileOf_back hf, filesOf_back h1]
theorem step_back {ws : List (List UInt8)} {y : StepL} {k : Nat} (h : stepOf ws = some (y, k)) : (y = stepK 1 0 ∧ 1 ≤ k ∧ k ≤ 1000) ∨ (k = 1 ∧ y.kind ≠ 1 ∧ stepLine y = lineL ws) := by
  unfold stepOf at h
  split at h
  · cases h
  · rename_i w0 r
    split at h
    · rename_i h0
      subst h0
      right
      unfold packOf at h
      split at h
      · cases h
      · rename_i fs hfs
        split at h
        · cases h
          refine ⟨rfl, by simp [stepK], ?_⟩
          unfold stepLine
          rw [if_pos rfl]
          simp only
          rw [filesOf_back hfs]; rfl
        · cases h
    · split at h
      · left
        unfold tickOf at h
        split at h
        · rw [Option.map_eq_some_iff] at h
          obtain ⟨v, h1, h2⟩ := h
          cases h2
          obtain ⟨_, h3, h4⟩ := numQ_back h1 (by decide) (by decide)
          exact ⟨rfl, by omega, by omega⟩
        · cases h
      · split at h
        · rename_i h0
          subst h0
          right
          unfold sideOf at h
          split at h
          · rename_i a b
            split at h
            · rename_i h1
              rw [Option.map_eq_some_iff] at h
              obtain ⟨v, h2, h3⟩ := h
              cases h3
              obtain ⟨h4, _, _⟩ := numQ_back h2 (by decide) (by decide)
              subst h1
              refine ⟨rfl, by simp [stepK], ?_⟩
              rw [h4]; rfl
            · split at h
              · rename_i h1
                rw [Option.map_eq_some_iff] at h
                obtain ⟨v, h2, h3⟩ := h
                cases h3
                obtain ⟨h4, _, _⟩ := numQ_back h2 (by decide) (by decide)
                subst h1
                refine ⟨rfl, by simp [stepK], ?_⟩
                rw [h4]; rfl
              · cases h
          · cases h
        · split at h
          · rename_i h0
            subst h0
            right
            unfold sideOf at h
            split at h
            · rename_i a b
              split at h
              · rename_i h1
                rw [Option.map_eq_some_iff] at h
                obtain ⟨v, h2, h3⟩ := h
                cases h3
                obtain ⟨h4, _, _⟩ := numQ_back h2 (by decide) (by decide)
                subst h1
                refine ⟨rfl, by simp [stepK], ?_⟩
                rw [h4]; rfl
              · split at h
                · rename_i h1
                  rw [Option.map_eq_some_iff] at h
                  obtain ⟨v, h2, h3⟩ := h
                  cases h3
                  obtain ⟨h4, _, _⟩ := numQ_back h2 (by decide) (by decide)
                  subst h1
                  refine ⟨rfl, by simp [stepK], ?_⟩
                  rw [h4]; rfl
                · cases h
            · cases h
          · split at h
            · rename_i h0
              subst h0
              right
              unfold injectOf at h
              split at h
              · rename_i a b c
                split at h
                · rename_i h1
                  split at h
                  · rename_i h2
                    rw [Option.map_eq_some_iff] at h
                    obtain ⟨v, h3, h4⟩ := h
                    cases h4
                    obtain ⟨h5, _, _⟩ := numQ_back h3 (by decide) (by decide)
                    refine ⟨rfl, by simp [stepK], ?_⟩
                    have e : stepLine ⟨6, if a = wSender then 1 else 0, [], (unhexV b).1, false, v, 0⟩ = lineL [wInject, sideL (bits BinOp.and IntKind.i64 (if a = wSender then 1 else 0) 1), hexV (unhexV b).1, Lib.itoa v] := rfl
                    rw [e, unhexV_back b h2, ← h5]
                    have e2 : sideL (bits BinOp.and IntKind.i64 (if a = wSender then 1 else 0) 1) = a := by
                      split
                      · rename_i h6; rw [h6]; rfl
                      · rename_i h6
                        rcases h1 with h1 | h1
                        · exact absurd h1 h6
                        · rw [h1]; rfl
                    rw [e2]
                  · cases h
                · cases h
              · cases h
            · split at h
              · rename_i h0
                subst h0
                right
                unfold fateOf at h
                split at h
                · rename_i a
                  split at h
                  · rename_i h1
                    cases h
                    subst h1
                    exact ⟨rfl, by decide, rfl⟩
                  · cases h
                · rename_i a b
                  rw [Option.bind_eq_some_iff] at h
                  obtain ⟨d, h1, h2⟩ := h
                  rw [Option.map_eq_some_iff] at h2
                  obtain ⟨c, h3, h4⟩ := h2
                  cases h4
                  obtain ⟨h5, _, _⟩ := numQ_back h1 (by decide) (by decide)
                  obtain ⟨h6, _, _⟩ := numQ_back h3 (by decide) (by decide)
                  refine ⟨rfl, by simp [stepK], ?_⟩
                  rw [h5, h6]; rfl
                · cases h
              · cases h
theorem step_ok {w : List UInt8} {y : StepL} {k : Nat} (h : stepOf (pieces 32 w []) = some (y, k)) (hw : w.length ≤ 900000) : StepOk y := by
  have hm : ∀ v ∈ pieces 32 w [], v.length ≤ 900000 := fun v hv => by have := pieces_mem 32 w [] v hv; simp at this; omega
  have hk : (pieces 32 w []).length ≤ 900001 := by rw [pieces_len]; have := List.count_le_length (a := (32 : UInt8)) (l := w); omega
  have i0 : isI64 0 := ⟨by decide, by decide⟩
  have fn : ∀ f ∈ ([] : List FileL), f.1.length ≤ 1000000 ∧ f.2.length ≤ 1000000 := fun f hf => by simp at hf
  unfold stepOf at h
  split at h
  · cases h
  · rename_i w0 r hr
    rw [hr] at hm hk
    split at h
    · unfold packOf at h
      split at h
      · cases h
      · rename_i fs hfs
        split at h
        · cases h
          obtain ⟨h1, h2⟩ := filesOf_mem hfs
          simp only [List.length_cons] at hk
          refine ⟨i0, i0, i0, by simp, by simp only; omega, fun f hf => ?_⟩
          obtain ⟨v, hv1, hv2⟩ := h2 f hf
          have := fileOf_len hv2
          have := hm v (by simp [hv1])
          omega
        · cases h
    · split at h
      · unfold tickOf at h
        split at h
        · rw [Option.map_eq_some_iff] at h
          obtain ⟨v, h1, h2⟩ := h
          cases h2
          exact ⟨i0, i0, i0, by simp [stepK], by simp [stepK], fn⟩
        · cases h
      · have side : ∀ (r : List (List UInt8)) (a b : Int), sideOf r a b = some (y, k) → StepOk y := fun r a b h => by
          unfold sideOf at h
          split at h
          · split at h
            · rw [Option.map_eq_some_iff] at h
              obtain ⟨v, h1, h2⟩ := h
              cases h2
              obtain ⟨_, h3, h4⟩ := numQ_back h1 (by decide) (by decide)
              exact ⟨⟨by simp only [stepK]; omega, by simp only [stepK]; omega⟩, i0, i0, by simp [stepK], by simp [stepK], fn⟩
            · split at h
              · rw [Option.map_eq_some_iff] at h
                obtain ⟨v, h1, h2⟩ := h
                cases h2
                obtain ⟨_, h3, h4⟩ := numQ_back h1 (by decide) (by decide)
                exact ⟨⟨by simp only [stepK]; omega, by simp only [stepK]; omega⟩, i0, i0, by simp [stepK], by simp [stepK], fn⟩
              · cases h
          · cases h
        split at h
        · exact side _ _ _ h
        · split at h
          · exact side _ _ _ h
          · split at h
            · unfold injectOf at h
              split at h
              · rename_i a b c
                split at h
                · split at h
                  · rw [Option.map_eq_some_iff] at h
                    obtain ⟨v, h3, h4⟩ := h
                    cases h4
                    obtain ⟨_, h5, h6⟩ := numQ_back h3 (by decide) (by decide)
                    have h7 := unhexV_len b
                    have h8 := hm b (by simp)
                    exact ⟨by simp only; split <;> exact ⟨by decide, by decide⟩, ⟨by simp only; omega, by simp only; omega⟩, i0, by simp only; omega, by simp, fn⟩
                  · cases h
                · cases h
              · cases h
            · split at h
              · unfold fateOf at h
                split at h
                · split at h
                  · cases h
                    exact ⟨i0, i0, i0, by simp, by simp, fn⟩
                  · cases h
                · rw [Option.bind_eq_some_iff] at h
                  obtain ⟨d, h1, h2⟩ := h
                  rw [Option.map_eq_some_iff] at h2
                  obtain ⟨c, h3, h4⟩ := h2
                  cases h4
                  obtain ⟨_, h5, h6⟩ := numQ_back h1 (by decide) (by decide)
                  obtain ⟨_, h7, h8⟩ := numQ_back h3 (by decide) (by decide)
                  exact ⟨i0, ⟨by simp only; omega, by simp only; omega⟩, ⟨by simp only; omega, by simp only; omega⟩, by simp, by simp, fn⟩
                · cases h
              · cases h
theorem numsV_back : ∀ {ws : List (List UInt8)} {bs : List (Int × Int)} {q : List Int}, numsV ws bs = some q → (∀ b ∈ bs, 0 ≤ b.1 ∧ b.2 ≤ 10000) → ws = q.map Lib.itoa ∧ ∀ v ∈ q, 0 ≤ v ∧ v ≤ 10000
  | [], [], q, h, _ => by simp [numsV] at h; subst h; exact ⟨rfl, fun v hv => by simp at hv⟩
  | [], _ :: _, q, h, _ => by cases h
  | _ :: _, [], q, h, _ => by cases h
  | w :: r, b :: bs, q, h, hb => by
    rw [numsV] at h
    split at h
    · rename_i h1
      rw [Option.map_eq_some_iff] at h
      obtain ⟨p, h2, rfl⟩ := h
      obtain ⟨h3, h4⟩ := numsV_back h2 fun x hx => hb x (by simp [hx])
      have hb0 := hb b (by simp)
      obtain ⟨h5, h6, h7⟩ := (numP_iff w b.1 b.2 _ (by omega) (by omega)).1 (show numP w b.1 b.2 = ((numP w b.1 b.2).1, true) by rw [← h1])
      refine ⟨by rw [List.map_cons, ← h5, ← h3], fun v hv => ?_⟩
      rcases List.mem_cons.1 hv with rfl | hv
      · omega
      · exact h4 v hv
    · cases h
theorem first_back {ws : List (List UInt8)} {a b c d : Int} (h : firstOf ws = some (a, b, c, d)) : lineL [[119, 111, 114, 108, 100], Lib.itoa a, Lib.itoa b, Lib.itoa c, Lib.itoa d] = lineL ws ∧ isI64 a ∧ isI64 b ∧ isI64 c ∧ isI64 d := by
  unfold firstOf at h
  split at h
  · rename_i w0 r
    split at h
    · rename_i h0
      subst h0
      split at h
      · rename_i q e f g i hq
        cases h
        obtain ⟨h1, h2⟩ := numsV_back hq (by intro x hx; simp at hx; rcases hx with rfl | rfl | rfl | rfl <;> decide)
        refine ⟨by rw [h1]; rfl, ?_, ?_, ?_, ?_⟩
        · have := h2 a (by simp); exact ⟨by omega, by omega⟩
        · have := h2 b (by simp); exact ⟨by omega, by omega⟩
        · have := h2 c (by simp); exact ⟨by omega, by omega⟩
        · have := h2 d (by simp); exact ⟨by omega, by omega⟩
      · cases h
    · cases h
  · cases h
def GoodStep (z : StepL) : Prop := z = stepK 1 0 ∨ (z.kind ≠ 1 ∧ ∃ w : List UInt8, 10 ∉ w ∧ w.length ≤ 900000 ∧ stepOf (pieces 32 w []) = some (z, 1) ∧ stepLine z = w ++ [10])
theorem line_pieces (w : List UInt8) : lineL (pieces 32 w []) = w ++ [10] := by
  unfold lineL; rw [join_pieces, List.nil_append]
def nt : List StepL → Nat
  | [] => 0
  | z :: r => (if z.kind = 1 then 0 else (stepLine z).length) + nt r
theorem nt_append : ∀ (a b : List StepL), nt (a ++ b) = nt a + nt b
  | [], b => by simp [nt]
  | z :: r, b => by rw [List.cons_append, nt, nt, nt_append r b]; omega
theorem nt_ticks : ∀ (k : Nat), nt (List.replicate k (stepK 1 0)) = 0
  | 0 => rfl
  | k + 1 => by rw [List.replicate_succ, nt, nt_ticks k]; rfl
theorem line_good {w : List UInt8} {L L' : List StepL} (hw : 10 ∉ w) (hl : w.length ≤ 900000) (h : addS L (stepOf (pieces 32 w [])) = some L') (hg : ∀ z ∈ L, GoodStep z) : (∀ z ∈ L', GoodStep z) ∧ L'.length ≤ 4096 ∧ nt L' ≤ nt L + w.length + 1 := by
  unfold addS at h
  split at h
  · cases h
  · rename_i z k hz
    split at h
    · rename_i hle
      cases h
      rcases step_back hz with ⟨rfl, _, _⟩ | ⟨rfl, h1, h2⟩
      · refine ⟨fun y hy => ?_, by simpa using hle, by rw [nt_append, nt_ticks]; omega⟩
        rcases List.mem_append.1 hy with hy | hy
        · exact hg y hy
        · exact .inl (List.mem_replicate.1 hy).2
      · rw [line_pieces] at h2
        refine ⟨fun y hy => ?_, by simpa using hle, ?_⟩
        · rcases List.mem_append.1 hy with hy | hy
          · exact hg y hy
          · simp at hy; subst hy; exact .inr ⟨h1, w, hw, hl, hz, h2⟩
        · rw [nt_append]
          simp only [List.replicate_one, nt, if_neg h1, h2, List.length_append, List.length_singleton]
          omega
    · cases h
def lens1 : List (List UInt8) → Nat
  | [] => 0
  | s :: r => s.length + 1 + lens1 r
theorem run_good : ∀ (ls : List (List UInt8)) (n : Nat) (x y : PS) (m : Int), (∀ s ∈ ls, 10 ∉ s ∧ s.length ≤ 900000) → n ≠ 0 → (∀ z ∈ x.2.2.2.2, GoodStep z) → x.2.2.2.2.length ≤ 4096 → runLines ls n x = (y, m, 0) →
    m = 0 ∧ y.1 = x.1 ∧ y.2.1 = x.2.1 ∧ y.2.2.1 = x.2.2.1 ∧ y.2.2.2.1 = x.2.2.2.1 ∧ (∀ z ∈ y.2.2.2.2, GoodStep z) ∧ y.2.2.2.2.length ≤ 4096 ∧ nt y.2.2.2.2 ≤ nt x.2.2.2.2 + lens1 ls
  | [], n, x, y, m, _, _, hg, hl, h => by
    simp only [runLines, Prod.mk.injEq] at h
    obtain ⟨rfl, rfl, _⟩ := h
    exact ⟨rfl, rfl, rfl, rfl, rfl, hg, hl, Nat.le_add_right _ _⟩
  | s :: r, n, x, y, m, hs, hn, hg, hl, h => by
    rw [runLines] at h
    split at h
    · simp at h
    · rename_i x1 hx1
      unfold lineOf at hx1
      rw [decide_eq_false hn] at hx1
      simp only [Bool.false_eq_true, if_false] at hx1
      rw [Option.map_eq_some_iff] at hx1
      obtain ⟨L', h1, rfl⟩ := hx1
      have hs0 := hs s (by simp)
      obtain ⟨g1, g2, g3⟩ := line_good hs0.1 hs0.2 h1 hg
      obtain ⟨k1, k2, k3, k4, k5, k6, k7, k8⟩ := run_good r (n + 1) _ y m (fun q hq => hs q (by simp [hq])) (by omega) g1 g2 h
      refine ⟨k1, k2, k3, k4, k5, k6, k7, ?_⟩
      simp only [lens1]
      simp only at k8
      omega
def GoodScr (x : PS) (B : Nat) : Prop := ∃ w0 : List UInt8, 10 ∉ w0 ∧ firstOf (pieces 32 w0 []) = some (x.1, x.2.1, x.2.2.1, x.2.2.2.1) ∧ lineL [[119, 111, 114, 108, 100], Lib.itoa x.1, Lib.itoa x.2.1, Lib.itoa x.2.2.1, Lib.itoa x.2.2.2.1] = w0 ++ [10] ∧
  isI64 x.1 ∧ isI64 x.2.1 ∧ isI64 x.2.2.1 ∧ isI64 x.2.2.2.1 ∧ (∀ z ∈ x.2.2.2.2, GoodStep z) ∧ x.2.2.2.2.length ≤ 4096 ∧ w0.length + 1 + nt x.2.2.2.2 ≤ B
theorem lens1_pieces (c : UInt8) : ∀ (l cur : List UInt8), lens1 (pieces c l cur) = cur.length + l.length + 1
  | [], cur => by simp [pieces, lens1]
  | b :: r, cur => by
    rw [pieces]
    split
    · rw [lens1, lens1_pieces]; simp; omega
    · rw [lens1_pieces]; simp; omega
theorem run_err : ∀ (ls : List (List UInt8)) (n : Nat) (x y : PS) (m e : Int), runLines ls n x = (y, m, e) → e = 0 ∨ (e ≠ 0 ∧ y = ps0)
  | [], n, x, y, m, e, h => by
    simp only [runLines, Prod.mk.injEq] at h
    exact .inl h.2.2.symm
  | s :: r, n, x, y, m, e, h => by
    rw [runLines] at h
    split at h
    · simp only [Prod.mk.injEq] at h
      obtain ⟨rfl, _, rfl⟩ := h
      exact .inr ⟨by decide, rfl⟩
    · exact run_err r (n + 1) _ y m e h
theorem parse_good {s : List UInt8} {x : PS} {n e : Int} (hs : s.length ≤ 800000) (h : parseV s = (x, n, e)) : (e = 0 ∧ n = 0 ∧ GoodScr x s.length) ∨ (e ≠ 0 ∧ x = ps0) := by
  unfold parseV at h
  split at h
  · cases h; exact .inr ⟨by decide, rfl⟩
  · split at h
    · cases h; exact .inr ⟨by decide, rfl⟩
    · rename_i hsuf
      obtain ⟨r, hr⟩ := (suffix_iff s 10).1 (by simpa using hsuf)
      subst hr
      rw [trim_eq] at h
      have hfree := pieces_free 10 r [] (by simp)
      have hlen := lens1_pieces 10 r []
      have hmem := pieces_mem 10 r []
      simp only [List.length_append, List.length_singleton] at hs ⊢
      cases hp : pieces 10 r [] with
      | nil => have := pieces_len 10 r []; rw [hp] at this; simp at this
      | cons w0 ls =>
        rw [hp] at h hfree hlen hmem
        rw [runLines] at h
        split at h
        · cases h; exact .inr ⟨by decide, rfl⟩
        · rename_i y0 hy0
          rcases run_err ls 1 y0 x n e h with rfl | he
          · left
            unfold lineOf at hy0
            simp only [decide_true, if_true] at hy0
            rw [Option.map_eq_some_iff] at hy0
            obtain ⟨⟨a, b, c, d⟩, h1, rfl⟩ := hy0
            obtain ⟨f1, f2, f3, f4, f5⟩ := first_back h1
            rw [line_pieces] at f1
            simp only at h
            obtain ⟨k1, k2, k3, k4, k5, k6, k7, k8⟩ := run_good ls 1 _ x n (fun q hq => ⟨hfree q (by simp [hq]), by have := hmem q (by simp [hq]); simp at this; omega⟩) (by decide) (by simp) (by simp) h
            simp only at k2 k3 k4 k5 k8
            simp only [lens1, List.length_nil] at hlen
            simp only [nt] at k8
            refine ⟨rfl, k1, w0, hfree w0 (by simp), by rw [k2, k3, k4, k5]; exact h1, by rw [k2, k3, k4, k5]; exact f1, by rw [k2]; exact f2, by rw [k3]; exact f3, by rw [k4]; exact f4, by rw [k5]; exact f5, k6, k7, by omega⟩
          · exact .inr he
def tickW (k : Nat) : List UInt8 := wTick ++ [32] ++ Lib.itoa (k : Int)
def linesB : Nat → List StepL → List (List UInt8)
  | _, [] => []
  | n, z :: r => if z.kind = 1 then (if tickNext r = true ∧ n + 1 < 1000 then linesB (n + 1) r else tickW (n + 1) :: linesB 0 r) else (stepLine z).dropLast :: linesB 0 r
theorem dec_digits : ∀ (u : Nat), ∀ b ∈ Lib.decDigits u, 48 ≤ b.toNat ∧ b.toNat ≤ 57 := by
  intro u
  induction u using Nat.strongRecOn with
  | _ u ih =>
    intro b hb
    by_cases h : u < 10
    · rw [Lib.decDigits_one h, List.mem_singleton] at hb
      subst hb
      rw [dig_nat h]; omega
    · rw [Lib.decDigits, dif_neg h] at hb
      rcases List.mem_append.1 hb with hb | hb
      · exact ih (u / 10) (by omega) b hb
      · rw [List.mem_singleton] at hb
        subst hb
        rw [dig_nat (Nat.mod_lt u (by decide : 10 > 0))]; omega
theorem itoa_free (v : Int) (c : UInt8) (hc : c = 10 ∨ c = 32) : c ∉ Lib.itoa v := by
  intro h
  have hd : ∀ u, c ∉ Lib.decDigits u := fun u hu => by
    have := dec_digits u c hu
    rcases hc with rfl | rfl <;> revert this <;> decide
  unfold Lib.itoa at h
  split at h
  · rcases List.mem_cons.1 h with h | h
    · rcases hc with rfl | rfl <;> exact absurd h (by decide)
    · exact hd _ h
  · exact hd _ h
theorem tickW_free (k : Nat) : 10 ∉ tickW k := by
  unfold tickW wTick
  intro h
  rcases List.mem_append.1 h with h | h
  · revert h; decide
  · exact itoa_free _ _ (.inl rfl) h
theorem tickW_pieces (k : Nat) : pieces 32 (tickW k) [] = [wTick, Lib.itoa (k : Int)] := by
  have : tickW k = Lib.join [wTick, Lib.itoa (k : Int)] [32] := by rw [join_cons2, join_one]; rfl
  rw [this]
  refine pieces_join 32 _ (by simp) fun w hw => ?_
  simp at hw
  rcases hw with rfl | rfl
  · decide
  · exact itoa_free _ _ (.inr rfl)
theorem tickW_line (k : Nat) : lineL [wTick, Lib.itoa (k : Int)] = tickW k ++ [10] := by
  rw [← tickW_pieces k, line_pieces]
theorem tick_step (k : Nat) (h1 : 1 ≤ k) (h2 : k ≤ 1000) : stepOf (pieces 32 (tickW k) []) = some (stepK 1 0, k) := by
  rw [tickW_pieces]
  have hn : numQ (Lib.itoa (k : Int)) 1 1000 = some (k : Int) := by
    unfold numQ
    have := (numP_iff (Lib.itoa (k : Int)) 1 1000 k (by decide) (by decide)).2 ⟨rfl, by omega, by omega⟩
    rw [this]; rfl
  show tickOf [Lib.itoa (k : Int)] = _
  simp only [tickOf, hn]
  simp
theorem linesB_free : ∀ (L : List StepL) (n : Nat), (∀ z ∈ L, GoodStep z) → ∀ w ∈ linesB n L, 10 ∉ w
  | [], n, _, w, hw => by simp [linesB] at hw
  | z :: r, n, hg, w, hw => by
    have hr : ∀ y ∈ r, GoodStep y := fun y hy => hg y (by simp [hy])
    rw [linesB] at hw
    split at hw
    · split at hw
      · exact linesB_free r _ hr w hw
      · rcases List.mem_cons.1 hw with rfl | hw
        · exact tickW_free _
        · exact linesB_free r _ hr w hw
    · rename_i hk
      rcases List.mem_cons.1 hw with rfl | hw
      · rcases hg z (by simp) with rfl | ⟨_, v, h1, _, _, h4⟩
        · exact absurd rfl hk
        · rw [h4, List.dropLast_concat]; exact h1
      · exact linesB_free r _ hr w hw
theorem printB_lines : ∀ (L : List StepL) (n : Nat), (∀ z ∈ L, GoodStep z) → printB n L = (linesB n L).flatMap (· ++ [10])
  | [], n, _ => rfl
  | z :: r, n, hg => by
    have hr : ∀ y ∈ r, GoodStep y := fun y hy => hg y (by simp [hy])
    rw [printB, linesB]
    split
    · split
      · exact printB_lines r _ hr
      · rw [List.flatMap_cons, printB_lines r 0 hr]
        congr 1
        exact tickW_line (n + 1)
    · rename_i hk
      rw [List.flatMap_cons, printB_lines r 0 hr]
      congr 1
      rcases hg z (by simp) with rfl | ⟨_, v, h1, _, _, h4⟩
      · exact absurd rfl hk
      · rw [h4, List.dropLast_concat]
theorem rerun (a b c d : Int) : ∀ (L : List StepL) (n k : Nat) (acc : List StepL), k ≠ 0 → (∀ z ∈ L, GoodStep z) → acc.length + n + L.length ≤ 4096 → n < 1000 → (n ≠ 0 → tickNext L = true) →
    runLines (linesB n L) k (a, b, c, d, acc) = ((a, b, c, d, acc ++ List.replicate n (stepK 1 0) ++ L), 0, 0)
  | [], n, k, acc, _, _, _, _, ht => by
    have : n = 0 := by
      apply Decidable.byContradiction
      intro h
      exact absurd (ht h) (by decide)
    subst this
    simp [linesB, runLines]
  | z :: r, n, k, acc, hk, hg, hl, hn, ht => by
    have hr : ∀ y ∈ r, GoodStep y := fun y hy => hg y (by simp [hy])
    simp only [List.length_cons] at hl
    rw [linesB]
    split
    · rename_i hz
      have hze : z = stepK 1 0 := by
        rcases hg z (by simp) with h | h
        · exact h
        · exact absurd hz h.1
      subst hze
      split
      · rename_i hc
        rw [rerun a b c d r (n + 1) k acc hk hr (by omega) hc.2 (fun _ => hc.1)]
        rw [List.replicate_succ']
        simp
      · rw [runLines]
        have e : lineOf (decide (k = 0)) (a, b, c, d, acc) (pieces 32 (tickW (n + 1)) []) = some (a, b, c, d, acc ++ List.replicate (n + 1) (stepK 1 0)) := by
          unfold lineOf
          rw [decide_eq_false hk]
          simp only [Bool.false_eq_true, if_false]
          rw [tick_step (n + 1) (by omega) (by omega)]
          unfold addS
          simp only
          rw [if_pos (by omega)]; rfl
        rw [e]
        simp only
        rw [rerun a b c d r 0 (k + 1) _ (by omega) hr (by simp; omega) (by decide) (fun h => absurd rfl h)]
        rw [List.replicate_succ']
        simp
    · rename_i hz
      have hn0 : n = 0 := by
        apply Decidable.byContradiction
        intro h
        exact hz (of_decide_eq_true (ht h))
      subst hn0
      rcases hg z (by simp) with rfl | ⟨_, v, h1, _, h3, h4⟩
      · exact absurd rfl hz
      · rw [h4, List.dropLast_concat, runLines]
        have e : lineOf (decide (k = 0)) (a, b, c, d, acc) (pieces 32 v []) = some (a, b, c, d, acc ++ [z]) := by
          unfold lineOf
          rw [decide_eq_false hk]
          simp only [Bool.false_eq_true, if_false]
          rw [h3]
          unfold addS
          simp only
          rw [if_pos (by omega)]; rfl
        rw [e]
        simp only
        rw [rerun a b c d r 0 (k + 1) _ (by omega) hr (by simp; omega) (by decide) (fun h => absurd rfl h)]
        simp
theorem flat_join : ∀ (w : List UInt8) (ls : List (List UInt8)), (w :: ls).flatMap (· ++ [10]) = Lib.join (w :: ls) [10] ++ [10]
  | w, [] => by rw [join_one]; simp
  | w, v :: r => by rw [List.flatMap_cons, flat_join v r, join_cons2]; simp
theorem itoa_short : ∀ n : Fin 1001, (Lib.itoa (n.val : Int)).length ≤ 4 := by decide +kernel
theorem printB_len : ∀ (L : List StepL) (n : Nat), n < 1000 → (printB n L).length ≤ nt L + 12 * L.length
  | [], n, _ => by simp [printB, nt]
  | z :: r, n, hn => by
    rw [printB, nt]
    simp only [List.length_cons]
    split
    · split
      · rename_i h; have := printB_len r (n + 1) h.2; omega
      · have h0 := printB_len r 0 (by decide)
        have h1 := itoa_short ⟨n + 1, by omega⟩
        have h2 : (lineL [[116, 105, 99, 107], Lib.itoa ((n + 1 : Nat) : Int)]).length = 6 + (Lib.itoa ((n + 1 : Nat) : Int)).length := by
          rw [show ([116, 105, 99, 107] : List UInt8) = wTick from rfl, tickW_line]; simp [tickW, wTick]; omega
        rw [List.length_append, h2]
        simp only at h1
        omega
    · have h0 := printB_len r 0 (by decide)
      rw [List.length_append]; omega
theorem print_len {x : PS} {B : Nat} (h : GoodScr x B) : (printV x).length ≤ B + 49152 := by
  obtain ⟨w0, _, _, h1, _, _, _, _, _, h2, h3⟩ := h
  unfold printV
  rw [h1]
  have := printB_len x.2.2.2.2 0 (by decide)
  simp only [List.length_append, List.length_singleton]
  omega
theorem back {x : PS} {B : Nat} (h : GoodScr x B) (hB : B ≤ 200000) : parseV (printV x) = (x, 0, 0) := by
  have hlen := print_len h
  obtain ⟨w0, hw0, h1, h2, _, _, _, _, hg, hl, _⟩ := h
  obtain ⟨a, b, c, d, L⟩ := x
  simp only at h1 h2 hg hl
  have e : printV (a, b, c, d, L) = Lib.join (w0 :: linesB 0 L) [10] ++ [10] := by
    rw [← flat_join, List.flatMap_cons, ← printB_lines L 0 hg, ← h2]; rfl
  rw [e] at hlen ⊢
  unfold parseV
  rw [if_neg (by omega)]
  have hs : Lib.hasSuffix (Lib.join (w0 :: linesB 0 L) [10] ++ [10]) [10] = true := (suffix_iff _ _).2 ⟨_, rfl⟩
  rw [if_neg (by rw [hs]; decide), trim_eq, pieces_join 10 _ (by simp) (fun w hw => by
    rcases List.mem_cons.1 hw with rfl | hw
    · exact hw0
    · exact linesB_free L 0 hg w hw), runLines]
  have e1 : lineOf (decide (0 = 0)) ps0 (pieces 32 w0 []) = some (a, b, c, d, []) := by
    unfold lineOf
    simp only [decide_true, if_true]
    rw [h1]; rfl
  rw [e1]
  simp only
  rw [rerun a b c d L 0 (0 + 1) [] (by decide) hg (by simp; omega) (by decide) (fun h => absurd rfl h)]
  simp
end Go.Proofs.YthcleiegefhmdaaDoor
namespace Go.Proofs.YthcleiegefhmdaaDoor
open Go.RowKit Abs
theorem slice_to (get : Nat → Option Blk) (s : ByteArray) (k : Nat) (h : k ≤ s.size) : gSlice Tryd.prog get 9 (.string s) none (some (.int .i64 (k : Int))) = some (.string (str (s.data.toList.take k))) := by
  have hbs : bsize s = s.size := rfl
  unfold gSlice aBound
  simp only [Tryd.underlying9, hbs]
  rw [if_pos (by omega)]
  rfl
end Go.Proofs.YthcleiegefhmdaaDoor
namespace Go.Proofs.YthcleiegefhmdaaDoor
open Go.RowKit Abs
set_option maxRecDepth 100000 in
set_option maxHeartbeats 2000000 in
theorem filesame_spec (files : List FileL) (a b : Option Addr) (ca cb : Nat) (m : Mem) (hA : Rd m 2 (.slice a files.length ca) files.length (files.flatMap fileC)) (hB : Rd m 2 (.slice b files.length cb) files.length (files.flatMap fileC)) (hl : files.length ≤ 1000000000) :
    Abs.Spec Tryd.prog 25 [.slice a files.length ca, .slice b files.length cb] m fun u M => u = .bool true ∧ M = m := by
  refine Abs.Spec.walkB Tryd.func25 (by rfl) _ Tryd.results25 _ Tryd.ntmps25 (by simp) m [] (ext_nil m).symm 0 rfl (.inl rfl) ?_
  intro hc hx
  replace hx := hx rfl
  have fa : ∀ keep j, ren (sig m.size keep) j (.slice a files.length ca) = some (.slice a files.length ca) := Cl.fix (hx _ (by simp))
  have fb : ∀ keep j, ren (sig m.size keep) j (.slice b files.length cb) = some (.slice b files.length cb) := Cl.fix (hx _ (by simp))
  have z0 : ((files.length : Int) != (files.length : Int)) = false := by simp
  refine CW_seq (CW_region ?_)
  simp only [zZ, reduceIte, Nat.reduceLT, Int.reduceToNat, Int.reduceLE, Int.reduceEq, Int.reduceLT, Nat.reduceEqDiff, Nat.reduceAdd, zTy]
  refine CW_seq (CW_seq (CW_region ?_))
  simp only [zZ, reduceIte, Nat.reduceLT, Int.reduceToNat, Int.reduceLE, Int.reduceEq, Int.reduceLT, Nat.reduceEqDiff, Nat.reduceAdd, zTy, z0]
  refine CW_cond false (by rfl) (fun h => by cases h) (fun _ => CW_skip ?_)
  simp only [zZ, reduceIte, Nat.reduceLT, Int.reduceToNat, Int.reduceLE, Int.reduceEq, Int.reduceLT, Nat.reduceEqDiff, Nat.reduceAdd]
  refine CW_seq (CW_seq (CW_region ?_))
  simp only [zZ, reduceIte, Nat.reduceLT, Int.reduceToNat, Int.reduceLE, Int.reduceEq, Int.reduceLT, Nat.reduceEqDiff, Nat.reduceAdd, zTy]
  refine CW_block (BW_loop hc (fun n f l => ∃ t : Nat, t + n = files.length ∧ f = [(0, .slice a files.length ca), (1, .slice b files.length cb), (5, .int .i64 (t : Nat))] ∧ l = []) files.length ?_ ?_)
  · refine ⟨_, rfl, [], [0, 1, 5], rfl, ?_⟩
    simp only [zZ, reduceIte, Nat.reduceLT, Int.reduceToNat, Int.reduceLE, Int.reduceEq, Int.reduceLT, Nat.reduceEqDiff, Nat.reduceAdd, zG, fa, fb]
    exact ⟨0, by omega, rfl⟩
  · rintro n f l ⟨t, htn, rfl, rfl⟩
    refine CW_seq (CW_seq (CW_region ?_))
    simp only [zZ, reduceIte, Nat.reduceLT, Int.reduceToNat, Int.reduceLE, Int.reduceEq, Int.reduceLT, Nat.reduceEqDiff, Nat.reduceAdd, zTy]
    refine CW_cond (decide ((t : Int) < (files.length : Int))) (by rfl) (fun h => CW_skip ?_) (fun h => CW_exit ?_)
    · simp only [zZ, reduceIte, Nat.reduceLT, Int.reduceToNat, Int.reduceLE, Int.reduceEq, Int.reduceLT, Nat.reduceEqDiff, Nat.reduceAdd]
      have htl : t < files.length := by have := of_decide_eq_true h; omega
      have h0 : (0 : Int) ≤ (t : Int) := by omega
      have h1 : (t : Int) < (files.length : Int) := by omega
      obtain ⟨ga, ra, hpa, hga⟩ := hA.at (by omega)
      obtain ⟨gb, rb, hpb, hgb⟩ := hB.at (by omega)
      have hla : ∀ l, (ext m l).get ga = some (.cells ra 2 (files.flatMap fileC)) := fun l => ext_get_old l hga
      have hlb : ∀ l, (ext m l).get gb = some (.cells rb 2 (files.flatMap fileC)) := fun l => ext_get_old l hgb
      have sa : ∀ keep, sig m.size keep ga = some ga := fun keep => sig_old keep (Mem.get_lt hga)
      have sb : ∀ keep, sig m.size keep gb = some gb := fun keep => sig_old keep (Mem.get_lt hgb)
      obtain ⟨A, hF⟩ : ∃ A, files[t]? = some A := ⟨_, List.getElem?_eq_getElem htl⟩
      have c0 : (files.flatMap fileC)[t * 2]? = some (.string (str A.1)) := flatMap_get (fun a _ => fileC_len a) hF (o := 0) (by decide)
      have c1 : (files.flatMap fileC)[t * 2 + 1]? = some (.string (str A.2)) := flatMap_get (fun a _ => fileC_len a) hF (o := 1) (by decide)
      have e0 : ∀ s : List UInt8, (!beqB (str s) (str s)) = false := fun s => by rw [beqB_str, decide_eq_true rfl]; rfl
      have ti : IntKind.i64.wrap ((t : Int) + 1) = ((t + 1 : Nat) : Int) := by rw [wr (by omega) (by omega)]; omega
      subst hpa
      subst hpb
      refine CW_seq (CW_block (CW_seq (CW_draw hmix 22 (by kernel_rfl) (by kernel_rfl) ?_)))
      simp only [zZ, reduceIte, Nat.reduceLT, Int.reduceToNat, Int.reduceLE, Int.reduceEq, Int.reduceLT, Nat.reduceEqDiff, Nat.reduceAdd, zTy, h0, h1, and_self, hla, hlb, c0, c1, e0]
      refine CW_cond false (by rfl) (fun h => by cases h) (fun _ => CW_skip ?_)
      simp only [zZ, reduceIte, Nat.reduceLT, Int.reduceToNat, Int.reduceLE, Int.reduceEq, Int.reduceLT, Nat.reduceEqDiff, Nat.reduceAdd]
      refine CW_region ?_
      simp only [zZ, reduceIte, Nat.reduceLT, Int.reduceToNat, Int.reduceLE, Int.reduceEq, Int.reduceLT, Nat.reduceEqDiff, Nat.reduceAdd, zTy, ti]
      refine ⟨_, rfl, [], [0, 1, 5], rfl, ?_⟩
      simp only [zZ, reduceIte, Nat.reduceLT, Int.reduceToNat, Int.reduceLE, Int.reduceEq, Int.reduceLT, Nat.reduceEqDiff, Nat.reduceAdd, zG, sa, sb]
      exact ⟨n - 1, ⟨t + 1, by omega, rfl⟩, by omega⟩
    · simp only [zZ, reduceIte, Nat.reduceLT, Int.reduceToNat, Int.reduceLE, Int.reduceEq, Int.reduceLT, Nat.reduceEqDiff, Nat.reduceAdd]
      refine CW_seq (CW_region ?_)
      simp only [zZ, reduceIte, Nat.reduceLT, Int.reduceToNat, Int.reduceLE, Int.reduceEq, Int.reduceLT, Nat.reduceEqDiff, Nat.reduceAdd, zTy]
      refine CW_ret ?_
      simp only [zZ, reduceIte, Nat.reduceLT, Int.reduceToNat, Int.reduceLE, Int.reduceEq, Int.reduceLT, Nat.reduceEqDiff, Nat.reduceAdd, zTy, bEnd, sAnswer, sAnswer.sRes]
      exact told_flat rfl rfl
theorem ne_fate (cx : Bool) (b : Bool) (d c : Int) : aBin Tryd.prog .neq 39 cx (.agg #[.bool b, .int .i64 d, .int .i64 c]) (.agg #[.bool b, .int .i64 d, .int .i64 c]) = some (.bool false) := by
  have e0 : ∀ (b1 b2 : Bool) (d1 d2 c1 c2 : Int), aBin Tryd.prog .neq 39 cx (.agg #[.bool b1, .int .i64 d1, .int .i64 c1]) (.agg #[.bool b2, .int .i64 d2, .int .i64 c2]) = (match some (b1 == b2) with
      | some true => (match some (d1 == d2) with
        | some true => (match some (c1 == c2) with
          | some true => some true
          | some false => some false
          | none => none)
        | some false => some false
        | none => none)
      | some false => some false
      | none => none).map fun b => .bool !b := fun _ _ _ _ _ _ => by kernel_rfl
  rw [e0]
  simp
set_option maxRecDepth 100000 in
set_option maxHeartbeats 2000000 in
theorem samesteps_spec (L : List StepL) (a b : Option Addr) (ca cb : Nat) (m : Mem) (hA : ScrAt m (.slice a L.length ca) L) (hB : ScrAt m (.slice b L.length cb) L) (hl : L.length ≤ 1000000000) (hfl : ∀ x ∈ L, x.files.length ≤ 1000000000) :
    Abs.Spec Tryd.prog 12 [.slice a L.length ca, .slice b L.length cb] m fun u M => u = .bool true ∧ M = m := by
  refine Abs.Spec.walkB Tryd.func12 (by rfl) _ Tryd.results12 _ Tryd.ntmps12 (by simp) m [] (ext_nil m).symm 0 rfl (.inl rfl) ?_
  intro hc hx
  replace hx := hx rfl
  have fa : ∀ keep j, ren (sig m.size keep) j (.slice a L.length ca) = some (.slice a L.length ca) := Cl.fix (hx _ (by simp))
  have fb : ∀ keep j, ren (sig m.size keep) j (.slice b L.length cb) = some (.slice b L.length cb) := Cl.fix (hx _ (by simp))
  have z0 : ((L.length : Int) != (L.length : Int)) = false := by simp
  have zz : ∀ k : Int, (k != k) = false := fun k => by simp
  have hal := al_Step
  generalize aStride Tryd.prog 41 = s1 at hal
  obtain ⟨LA, hA1, hA2, hA3⟩ := hA
  obtain ⟨LB, hB1, hB2, hB3⟩ := hB
  have hLA : LA.length = L.length := by rw [← hA1, List.length_map]
  have hLB : LB.length = L.length := by rw [← hB1, List.length_map]
  refine CW_seq (CW_region ?_)
  simp only [zZ, reduceIte, Nat.reduceLT, Int.reduceToNat, Int.reduceLE, Int.reduceEq, Int.reduceLT, Nat.reduceEqDiff, Nat.reduceAdd, zTy]
  refine CW_seq (CW_seq (CW_region ?_))
  simp only [zZ, reduceIte, Nat.reduceLT, Int.reduceToNat, Int.reduceLE, Int.reduceEq, Int.reduceLT, Nat.reduceEqDiff, Nat.reduceAdd, zTy, z0]
  refine CW_cond false (by rfl) (fun h => by cases h) (fun _ => CW_skip ?_)
  simp only [zZ, reduceIte, Nat.reduceLT, Int.reduceToNat, Int.reduceLE, Int.reduceEq, Int.reduceLT, Nat.reduceEqDiff, Nat.reduceAdd]
  refine CW_seq (CW_seq (CW_region ?_))
  simp only [zZ, reduceIte, Nat.reduceLT, Int.reduceToNat, Int.reduceLE, Int.reduceEq, Int.reduceLT, Nat.reduceEqDiff, Nat.reduceAdd, zTy]
  refine CW_block (BW_loop hc (fun n f l => ∃ t : Nat, t + n = L.length ∧ f = [(0, .slice a L.length ca), (1, .slice b L.length cb), (5, .int .i64 (t : Nat))] ∧ l = []) L.length ?_ ?_)
  · refine ⟨_, rfl, [], [0, 1, 5], rfl, ?_⟩
    simp only [zZ, reduceIte, Nat.reduceLT, Int.reduceToNat, Int.reduceLE, Int.reduceEq, Int.reduceLT, Nat.reduceEqDiff, Nat.reduceAdd, zG, fa, fb]
    exact ⟨0, by omega, rfl⟩
  · rintro n f l ⟨t, htn, rfl, rfl⟩
    refine CW_seq (CW_seq (CW_region ?_))
    simp only [zZ, reduceIte, Nat.reduceLT, Int.reduceToNat, Int.reduceLE, Int.reduceEq, Int.reduceLT, Nat.reduceEqDiff, Nat.reduceAdd, zTy]
    refine CW_cond (decide ((t : Int) < (L.length : Int))) (by rfl) (fun h => CW_skip ?_) (fun h => CW_exit ?_)
    · simp only [zZ, reduceIte, Nat.reduceLT, Int.reduceToNat, Int.reduceLE, Int.reduceEq, Int.reduceLT, Nat.reduceEqDiff, Nat.reduceAdd]
      have htl : t < L.length := by have := of_decide_eq_true h; omega
      have h0 : (0 : Int) ≤ (t : Int) := by omega
      have h1 : (t : Int) < (L.length : Int) := by omega
      obtain ⟨ga, ra, hpa, hga⟩ := hA3.at (by omega)
      obtain ⟨gb, rb, hpb, hgb⟩ := hB3.at (by omega)
      have hla : ∀ l, (ext m l).get ga = some (.cells ra 7 (LA.flatMap stepC)) := fun l => ext_get_old l hga
      have hlb : ∀ l, (ext m l).get gb = some (.cells rb 7 (LB.flatMap stepC)) := fun l => ext_get_old l hgb
      have sa : ∀ keep, sig m.size keep ga = some ga := fun keep => sig_old keep (Mem.get_lt hga)
      have sb : ∀ keep, sig m.size keep gb = some gb := fun keep => sig_old keep (Mem.get_lt hgb)
      obtain ⟨⟨x, V⟩, hX⟩ : ∃ A, LA[t]? = some A := ⟨_, List.getElem?_eq_getElem (by omega)⟩
      obtain ⟨⟨x', V'⟩, hX'⟩ : ∃ A, LB[t]? = some A := ⟨_, List.getElem?_eq_getElem (by omega)⟩
      have hxx : x' = x := by
        have e1 : (LA.map Prod.fst)[t]? = some x := by rw [List.getElem?_map, hX]; rfl
        have e2 : (LB.map Prod.fst)[t]? = some x' := by rw [List.getElem?_map, hX']; rfl
        rw [hA1] at e1
        rw [hB1, e1] at e2
        exact (Option.some.inj e2).symm
      subst hxx
      have hxL : x' ∈ L := by rw [← hA1]; exact List.mem_map.2 ⟨_, List.mem_of_getElem? hX, rfl⟩
      have hV := hA2 _ (List.mem_of_getElem? hX)
      have hV' := hB2 _ (List.mem_of_getElem? hX')
      simp only at hV hV'
      obtain ⟨va, vc, rfl⟩ := hV.len
      obtain ⟨wa, wc, rfl⟩ := hV'.len
      have r1 : rowIn 7 (t * 7) (some (.cells ra 7 (LA.flatMap stepC))) = some (.agg #[.int .i64 x'.kind, .int .i64 x'.n, .slice va x'.files.length vc, .string (str x'.text), .bool x'.drop, .int .i64 x'.delay, .int .i64 x'.copies]) := rowIn_at (n := 7) (fun a _ => stepC_len a) hX ra 7
      have r2 : rowIn 7 (t * 7) (some (.cells rb 7 (LB.flatMap stepC))) = some (.agg #[.int .i64 x'.kind, .int .i64 x'.n, .slice wa x'.files.length wc, .string (str x'.text), .bool x'.drop, .int .i64 x'.delay, .int .i64 x'.copies]) := rowIn_at (n := 7) (fun a _ => stepC_len a) hX' rb 7
      have e0 : ∀ s : List UInt8, (!beqB (str s) (str s)) = false := fun s => by rw [beqB_str, decide_eq_true rfl]; rfl
      have ti : IntKind.i64.wrap ((t : Int) + 1) = ((t + 1 : Nat) : Int) := by rw [wr (by omega) (by omega)]; omega
      subst hpa
      subst hpb
      refine CW_seq (CW_block (CW_seq (CW_draw4 hmix 10 [4, 5, 6, 7] (by kernel_rfl) ?_)))
      simp only [sQB, idleOK, List.getElem?_cons_succ, List.getElem?_cons_zero, Option.bind_some, zZ, reduceIte, Nat.reduceLT, Int.reduceToNat, Int.reduceLE, Int.reduceEq, Int.reduceLT, Nat.reduceEqDiff, Nat.reduceAdd, zTy, h0, h1, and_self, hla, hlb, r1, r2, hal]
      refine ⟨⟨⟨_, rfl⟩, ⟨_, rfl⟩, ⟨_, rfl⟩, ⟨_, rfl⟩⟩, ?_⟩
      refine CW_seq (CW_region ?_)
      simp only [zZ, reduceIte, Nat.reduceLT, Int.reduceToNat, Int.reduceLE, Int.reduceEq, Int.reduceLT, Nat.reduceEqDiff, Nat.reduceAdd, zTy, zz, e0, ne_fate]
      refine ⟨by kernel_rfl, _, filesame_spec x'.files va wa vc wc _ (hV.rd.grow (Grows.ext m _)) (hV'.rd.grow (Grows.ext m _)) (hfl _ hxL), ?_⟩
      rintro _ _ ⟨rfl, rfl⟩
      simp only [zZ, reduceIte, Nat.reduceLT, Int.reduceToNat, Int.reduceLE, Int.reduceEq, Int.reduceLT, Nat.reduceEqDiff, Nat.reduceAdd, zTy]
      refine CW_cond false (by rfl) (fun h => by cases h) (fun _ => CW_skip ?_)
      simp only [zZ, reduceIte, Nat.reduceLT, Int.reduceToNat, Int.reduceLE, Int.reduceEq, Int.reduceLT, Nat.reduceEqDiff, Nat.reduceAdd]
      refine CW_region ?_
      simp only [zZ, reduceIte, Nat.reduceLT, Int.reduceToNat, Int.reduceLE, Int.reduceEq, Int.reduceLT, Nat.reduceEqDiff, Nat.reduceAdd, zTy, ti]
      refine ⟨_, rfl, [], [0, 1, 5], rfl, ?_⟩
      simp only [zZ, reduceIte, Nat.reduceLT, Int.reduceToNat, Int.reduceLE, Int.reduceEq, Int.reduceLT, Nat.reduceEqDiff, Nat.reduceAdd, zG, sa, sb]
      exact ⟨n - 1, ⟨t + 1, by omega, rfl⟩, by omega⟩
    · simp only [zZ, reduceIte, Nat.reduceLT, Int.reduceToNat, Int.reduceLE, Int.reduceEq, Int.reduceLT, Nat.reduceEqDiff, Nat.reduceAdd]
      refine CW_seq (CW_region ?_)
      simp only [zZ, reduceIte, Nat.reduceLT, Int.reduceToNat, Int.reduceLE, Int.reduceEq, Int.reduceLT, Nat.reduceEqDiff, Nat.reduceAdd, zTy]
      refine CW_ret ?_
      simp only [zZ, reduceIte, Nat.reduceLT, Int.reduceToNat, Int.reduceLE, Int.reduceEq, Int.reduceLT, Nat.reduceEqDiff, Nat.reduceAdd, zTy, bEnd, sAnswer, sAnswer.sRes]
      exact told_flat rfl rfl
end Go.Proofs.YthcleiegefhmdaaDoor
namespace Go.Proofs.YthcleiegefhmdaaDoor
open Go.RowKit Abs
theorem eq_fair (cx : Bool) (a b : Int) : aBin Tryd.prog .eql 26 cx (.agg #[.int .i64 a, .int .i64 b]) (.agg #[.int .i64 a, .int .i64 b]) = some (.bool true) := by
  have e0 : ∀ (a1 b1 a2 b2 : Int), aBin Tryd.prog .eql 26 cx (.agg #[.int .i64 a1, .int .i64 b1]) (.agg #[.int .i64 a2, .int .i64 b2]) = (match some (a1 == a2) with
      | some true => (match some (b1 == b2) with
        | some true => some true
        | some false => some false
        | none => none)
      | some false => some false
      | none => none).map Value.bool := fun _ _ _ _ => by kernel_rfl
  rw [e0]
  simp
set_option maxRecDepth 100000 in
set_option maxHeartbeats 8000000 in
theorem lawback_spec (s : ByteArray) (m : Mem) : Abs.Spec Tryd.prog 4 [.string s] m fun u M => u = .bool true := by
  refine Abs.Spec.walkM Tryd.func4 (by rfl) _ Tryd.results4 _ Tryd.ntmps4 (by simp) ?_
  intro hc hx k
  have hal := al_Scr
  generalize aStride Tryd.prog 29 = s1 at hal
  have hbs : bsize s = s.size := rfl
  have hb : ∀ l : List UInt8, beqB (str l) (str l) = true := fun l => by rw [beqB_str]; exact decide_eq_true rfl
  refine CW_seq (CW_region ?_)
  simp only [zZ, reduceIte, Nat.reduceLT, Int.reduceToNat, Int.reduceLE, Int.reduceEq, Int.reduceLT, Nat.reduceEqDiff, Nat.reduceAdd, zTy]
  refine MW_mid (fun f M => ∃ q : List UInt8, q.length ≤ 20000 ∧ f = [(0, .string (str q))] ∧ M = m) (CW_seq (CW_region ?_)) ?_
  · simp only [zZ, reduceIte, Nat.reduceLT, Int.reduceToNat, Int.reduceLE, Int.reduceEq, Int.reduceLT, Nat.reduceEqDiff, Nat.reduceAdd, zTy, hbs]
    refine CW_cond (decide ((20000 : Int) < (s.size : Int))) (by rfl) (fun h => CW_region ?_) (fun h => CW_skip ?_)
    · have hlt : 20000 < s.size := by have := of_decide_eq_true h; omega
      have hsl : ∀ get, gSlice Tryd.prog get 9 (.string s) none (some (.int .i64 20000)) = some (.string (str (s.data.toList.take 20000))) := fun get => slice_to get s 20000 (by omega)
      simp only [zZ, reduceIte, Nat.reduceLT, Int.reduceToNat, Int.reduceLE, Int.reduceEq, Int.reduceLT, Nat.reduceEqDiff, Nat.reduceAdd, zTy, hsl]
      refine ⟨[0], ?_⟩
      simp only [zZ, reduceIte, Nat.reduceLT, Int.reduceToNat, Int.reduceLE, Int.reduceEq, Int.reduceLT, Nat.reduceEqDiff, Nat.reduceAdd, keepF]
      exact ⟨m, Thin.refl _, _, by rw [List.length_take]; omega, rfl, rfl⟩
    · have hle : s.size ≤ 20000 := by have := of_decide_eq_false h; omega
      simp only [zZ, reduceIte, Nat.reduceLT, Int.reduceToNat, Int.reduceLE, Int.reduceEq, Int.reduceLT, Nat.reduceEqDiff, Nat.reduceAdd, zTy]
      refine ⟨[0], ?_⟩
      simp only [zZ, reduceIte, Nat.reduceLT, Int.reduceToNat, Int.reduceLE, Int.reduceEq, Int.reduceLT, Nat.reduceEqDiff, Nat.reduceAdd, keepF]
      exact ⟨m, Thin.refl _, s.data.toList, by rw [show s.data.toList.length = s.size from rfl]; exact hle, rfl, rfl⟩
  · rintro f M ⟨q, hq, rfl, rfl⟩
    obtain ⟨⟨x, n, e⟩, hr⟩ : ∃ r, r = parseV q := ⟨_, rfl⟩
    have hgood := parse_good (by omega) hr.symm
    refine CW_seq (CW_region ?_)
    simp only [zZ, reduceIte, Nat.reduceLT, Int.reduceToNat, Int.reduceLE, Int.reduceEq, Int.reduceLT, Nat.reduceEqDiff, Nat.reduceAdd, zTy]
    refine ⟨by kernel_rfl, _, parse_spec pathOk q (by omega) M, ?_⟩
    rw [← hr]
    rintro _ M1 ⟨hk1, hs1, V1, rfl, hV1⟩
    simp only at hV1
    obtain ⟨a1, c1, rfl, _⟩ := id hV1.choose_spec.2.2
    simp only [zZ, reduceIte, Nat.reduceLT, Int.reduceToNat, Int.reduceLE, Int.reduceEq, Int.reduceLT, Nat.reduceEqDiff, Nat.reduceAdd, zTy, scrAgg, hal, Mem.get_push_new, push_set]
    obtain ⟨M2, hM2⟩ : ∃ M2, M2 = M1.push (.cells false s1 [.int .i64 x.1, .int .i64 x.2.1, .int .i64 x.2.2.1, .int .i64 x.2.2.2.1, .slice a1 x.2.2.2.2.length c1]) := ⟨_, rfl⟩
    rw [← hM2]
    have hold2 : ∀ b x, M1.get b = some x → M2.get b = some x := fun b x hx => by rw [hM2, Mem.get_push_old (get_live hx)]; exact hx
    have hb2 : M2.get M1.size = some (.cells false s1 [.int .i64 x.1, .int .i64 x.2.1, .int .i64 x.2.2.1, .int .i64 x.2.2.2.1, .slice a1 x.2.2.2.2.length c1]) := by rw [hM2, Mem.get_push_new]
    have hV2 := ScrAt.keep hV1 hold2
    clear hM2
    refine CW_seq (CW_seq (CW_region ?_))
    simp only [zZ, reduceIte, Nat.reduceLT, Int.reduceToNat, Int.reduceLE, Int.reduceEq, Int.reduceLT, Nat.reduceEqDiff, Nat.reduceAdd, zTy]
    refine CW_cond (e != 0) (by rfl) (fun h => CW_seq (CW_region ?_)) (fun h => CW_skip ?_)
    · have he : e ≠ 0 := by simpa using h
      rcases hgood with ⟨rfl, _⟩ | ⟨_, rfl⟩
      · exact absurd rfl he
      have b0 : (((0 : Nat) : Int) == 0) = true := rfl
      have hb2' : M2.get M1.size = some (.cells false s1 [.int .i64 ps0.1, .int .i64 ps0.2.1, .int .i64 ps0.2.2.1, .int .i64 ps0.2.2.2.1, .slice a1 0 c1]) := hb2
      simp only [zZ, reduceIte, Nat.reduceLT, Int.reduceToNat, Int.reduceLE, Int.reduceEq, Int.reduceLT, Nat.reduceEqDiff, Nat.reduceAdd, zTy, hb2', b0]
      refine ⟨by kernel_rfl, _, awake_spec M2, ?_⟩
      rintro _ M5 ⟨rfl, _⟩
      simp only [zZ, reduceIte, Nat.reduceLT, Int.reduceToNat, Int.reduceLE, Int.reduceEq, Int.reduceLT, Nat.reduceEqDiff, Nat.reduceAdd, zTy]
      refine CW_ret ?_
      simp only [zZ, reduceIte, Nat.reduceLT, Int.reduceToNat, Int.reduceLE, Int.reduceEq, Int.reduceLT, Nat.reduceEqDiff, Nat.reduceAdd, zTy, mEnd, sAnswer, sAnswer.sRes]
      exact ⟨M5, Thin.refl _⟩
    · have he : e = 0 := by simpa using h
      rcases hgood with ⟨_, rfl, hg⟩ | ⟨h0, _⟩
      rotate_left
      · exact absurd he h0
      subst he
      have hbk := back hg (by omega)
      have hpl := print_len hg
      obtain ⟨w0, _, _, _, i0, i1, i2, i3, hgs, hl4, _⟩ := id hg
      have hok : ∀ y ∈ x.2.2.2.2, StepOk y := fun y hy => by
        rcases hgs y hy with rfl | ⟨_, w, _, h1, h2, _⟩
        · exact exTick_ok
        · exact step_ok h2 h1
      obtain ⟨t, ht⟩ : ∃ t, t = printV x := ⟨_, rfl⟩
      simp only [zZ, reduceIte, Nat.reduceLT, Int.reduceToNat, Int.reduceLE, Int.reduceEq, Int.reduceLT, Nat.reduceEqDiff, Nat.reduceAdd]
      refine CW_seq (CW_region ?_)
      simp only [zZ, reduceIte, Nat.reduceLT, Int.reduceToNat, Int.reduceLE, Int.reduceEq, Int.reduceLT, Nat.reduceEqDiff, Nat.reduceAdd, zTy, hb2]
      have hpr := print_spec x a1 c1 M2 hV2 i0 i1 i2 i3 (by omega) hok (by omega)
      rw [← ht] at hpr hbk hpl
      refine ⟨by kernel_rfl, _, hpr, ?_⟩
      rintro _ M3 ⟨rfl, hk3⟩
      have hold3 := keeps_old hk3
      have hb3 := hold3 _ _ hb2
      have hV3 := ScrAt.keep hV2 hold3
      simp only [zZ, reduceIte, Nat.reduceLT, Int.reduceToNat, Int.reduceLE, Int.reduceEq, Int.reduceLT, Nat.reduceEqDiff, Nat.reduceAdd, zTy]
      refine CW_seq (CW_region ?_)
      simp only [zZ, reduceIte, Nat.reduceLT, Int.reduceToNat, Int.reduceLE, Int.reduceEq, Int.reduceLT, Nat.reduceEqDiff, Nat.reduceAdd, zTy]
      refine ⟨by kernel_rfl, _, parse_spec pathOk t (by omega) M3, ?_⟩
      rw [hbk]
      rintro _ M4 ⟨hk4, hs4, V4, rfl, hV4⟩
      simp only at hV4
      obtain ⟨a4, c4, rfl, _⟩ := id hV4.choose_spec.2.2
      simp only [zZ, reduceIte, Nat.reduceLT, Int.reduceToNat, Int.reduceLE, Int.reduceEq, Int.reduceLT, Nat.reduceEqDiff, Nat.reduceAdd, zTy, scrAgg, hal, Mem.get_push_new, push_set]
      obtain ⟨M5, hM5⟩ : ∃ M5, M5 = M4.push (.cells false s1 [.int .i64 x.1, .int .i64 x.2.1, .int .i64 x.2.2.1, .int .i64 x.2.2.2.1, .slice a4 x.2.2.2.2.length c4]) := ⟨_, rfl⟩
      rw [← hM5]
      have hold5 : ∀ b x, M4.get b = some x → M5.get b = some x := fun b x hx => by rw [hM5, Mem.get_push_old (get_live hx)]; exact hx
      have hb5 : M5.get M4.size = some (.cells false s1 [.int .i64 x.1, .int .i64 x.2.1, .int .i64 x.2.2.1, .int .i64 x.2.2.2.1, .slice a4 x.2.2.2.2.length c4]) := by rw [hM5, Mem.get_push_new]
      have hold35 : ∀ b x, M3.get b = some x → M5.get b = some x := fun b x hx => hold5 b x (keeps_old hk4 b x hx)
      have hb35 := hold35 _ _ hb3
      have hV5 := ScrAt.keep hV4 hold5
      have hV35 := ScrAt.keep hV3 hold35
      clear hM5
      have b0 : ((0 : Int) == 0) = true := rfl
      have zz : ∀ k : Int, (k == k) = true := fun k => by simp
      have rf : ∀ (s : Nat) (p q r v : Int) (w : Value), rowIn 2 2 (some (.cells false s [.int .i64 p, .int .i64 q, .int .i64 r, .int .i64 v, w])) = some (.agg #[.int .i64 r, .int .i64 v]) := fun _ _ _ _ _ _ => rfl
      refine CW_seq (CW_region ?_)
      simp only [zZ, reduceIte, Nat.reduceLT, Int.reduceToNat, Int.reduceLE, Int.reduceEq, Int.reduceLT, Nat.reduceEqDiff, Nat.reduceAdd, zTy, b0, hb35, hb5, zz, rf, eq_fair]
      refine ⟨by kernel_rfl, _, samesteps_spec x.2.2.2.2 a1 a4 c1 c4 M5 hV35 hV5 (by omega) (fun y hy => by have := (hok y hy).files; omega), ?_⟩
      rintro _ M9 ⟨rfl, e9⟩
      replace e9 := e9.symm
      subst e9
      simp only [zZ, reduceIte, Nat.reduceLT, Int.reduceToNat, Int.reduceLE, Int.reduceEq, Int.reduceLT, Nat.reduceEqDiff, Nat.reduceAdd, zTy, hb5]
      have hpr5 := print_spec x a4 c4 M5 hV5 i0 i1 i2 i3 (by omega) hok (by rw [← ht]; omega)
      rw [← ht] at hpr5
      refine ⟨by kernel_rfl, _, hpr5, ?_⟩
      rintro _ M6 ⟨rfl, _⟩
      simp only [zZ, reduceIte, Nat.reduceLT, Int.reduceToNat, Int.reduceLE, Int.reduceEq, Int.reduceLT, Nat.reduceEqDiff, Nat.reduceAdd, zTy, hb]
      refine ⟨by kernel_rfl, _, awake_spec M6, ?_⟩
      rintro _ M7 ⟨rfl, _⟩
      simp only [zZ, reduceIte, Nat.reduceLT, Int.reduceToNat, Int.reduceLE, Int.reduceEq, Int.reduceLT, Nat.reduceEqDiff, Nat.reduceAdd, zTy]
      refine CW_ret ?_
      simp only [zZ, reduceIte, Nat.reduceLT, Int.reduceToNat, Int.reduceLE, Int.reduceEq, Int.reduceLT, Nat.reduceEqDiff, Nat.reduceAdd, zTy, mEnd, sAnswer, sAnswer.sRes]
      exact ⟨M7, Thin.refl _⟩
end Go.Proofs.YthcleiegefhmdaaDoor
namespace Go.Proofs.YthcleiegefhmdaaDoor
open Go.ChangeShapes Go.WideShapes Go.ChangeAt Go.RowKit Abs
theorem tab_of_reads {P : Program} {W : World} {name : String} {k : IntKind} {zs : List Int} {g : Nat} {t e : TypeId} {n : Nat}
    (hg : P.globalNamed name = some g) (hty : (P.globals[g]?).map (·.type) = some t) (ht : P.underlying t = some (.array n e)) (he : P.underlying e = some (.int k)) (hce : P.cellsOf e = 1) (hct : P.cellsOf t = n)
    (h : Lib.VarReads P W name (Lib.tabData k zs)) : Lib.TabIs P W name k zs := by
  obtain ⟨g', t', cs, fuel, p, hg', ht', hvar, hd⟩ := h
  obtain rfl := Option.some.inj (hg.symm.trans hg')
  obtain rfl := Option.some.inj (hty.symm.trans ht')
  unfold Lib.TabIs
  rw [hvar, ← Lib.cells_of_tab ht he hce hct hd]
theorem err_of_reads {P : Program} {W : World} {name : String} {d : DataW Unit} {g : Nat} {t : TypeId} {ms : Array (String × TypeId)}
    (hg : P.globalNamed name = some g) (hty : (P.globals[g]?).map (·.type) = some t) (ht : P.underlying t = some (.interface ms)) (h : Lib.VarReads P W name d) :
    ∃ ev, W.cell? ⟨g, 0, none⟩ = some ev ∧ (ev = .nilIface ∨ ∃ te pe, ev = .iface te pe) := by
  obtain ⟨g', t', cs, fuel, p, hg', ht', hvar, hd⟩ := h
  obtain rfl := Option.some.inj (hg.symm.trans hg')
  obtain rfl := Option.some.inj (hty.symm.trans ht')
  have hc := World.var?_cell hg hvar 0
  obtain ⟨l⟩ := cs
  cases fuel with
  | zero => simp [DataW.trod] at hd
  | succ fuel =>
    unfold DataW.trod at hd
    rw [ht] at hd
    rcases l with _ | ⟨v, _ | ⟨b, r⟩⟩
    · simp at hd
    · cases v <;> first | (simp at hd; done) | exact ⟨_, hc.trans rfl, .inl rfl⟩ | exact ⟨_, hc.trans rfl, .inr ⟨_, _, rfl⟩⟩
    · cases v <;> simp at hd
theorem returns_of_walked_card {C : Checked} {os : Os} {n : FuncId} {f : Func} {s : ChangeSpec} {tb : TypeId} {laid : List (String × DataW Unit)} (own : ownKnob C.prog.godebug = none) (started : os.Started)
    (noInit : C.prog.inits.idxOf? n = none) (hf : C.prog.funcs[n]? = some f) (hl : laidOutB C.prog = true)
    (hs : IsLaw s f.params.size) (hr : f.resultTypes = #[tb]) (hu : C.prog.underlying tb = some .bool) (hp : ∀ t ∈ f.params.toList, C.prog.readableRec t = true ∧ t < C.prog.types.size)
    (hpl : (laid.all fun x => x.2.handleName?.isNone) = true)
    {H : Type} {enc : TypeId × Value → H} (F : Stop.Interp)
    (witness : ∃ (w : World) (tape : Tape) (i : Input), w.os = os ∧ (w.forCall tape i).Shaped C.prog ∧ i.vars = [] ∧ Input.okWide C.prog (w.forCall tape i) .any w.heap.size n i ∧
      (OpenSpec.ofChange s).preRow enc C.prog f [] false laid (w.forCall tape i).memory i.args ∧ Assume.holds {} C.prog (lone (Frame.enter C.prog n i.args .normal) [] (w.forCall tape i)))
    (walk : ∀ (W : World) (base : Nat) (args : Array Value) (ds : List (DataW H)) (ps : List MemPlace), laidMet C.prog laid W → W.ShapedOpen C.prog → (∀ (j : Nat) t v, f.params[j]? = some t → args[j]? = some v → Value.okWide C.prog W .any base t v) →
      DataW.TrodAll enc C.prog W 0 (fun _ => true) true f.params.toList args.toList ds ps → (∀ x ∈ DataW.weightsEach C.prog f.params.toList ds, x ≤ reachBytes) →
      Calls C.prog n args W fun e W' => e = .returned (.bool true) ∧ Below W.heap.size W W') :
    ReturnsInHanded {} C os n .any ((OpenSpec.ofChange s).preRow enc C.prog f [] false laid) (((OpenSpec.ofChange s).at F).post enc C.prog f false true false false) := by
  refine returnsInHanded_of_row (C := C) (s := OpenSpec.ofChange s) own started noInit hf witness ?_
  intro W base args ds gs before hval hW _ _ hz hL hS _
  obtain ⟨p, q, hA, hV, rfl, hfz, hnd⟩ := id hW
  have hv : (OpenSpec.ofChange s).vars = [] := hs.1
  have hv0 : s.vars = [] := hs.1
  rw [hv] at hV
  obtain ⟨rfl, rfl⟩ := trodVars_none hV
  rw [List.append_nil] at hz
  have hz' : ∀ x ∈ DataW.weightsEach C.prog f.params.toList ds, x ≤ reachBytes := by
    have e : (OpenSpec.ofChange s).bare.plain.varTypes C.prog = [] := by
      show s.plain.varTypes C.prog = []
      simp [ChangeSpec.plain, hv0, DataSpec.varTypes]
    rw [e, List.append_nil] at hz
    intro x hx
    simpa using List.all_eq_true.1 hz x hx
  rw [MakeChecks.laidMetH_plain _ _ _ hpl] at hL
  refine (walk W base args ds p hL hS hval hA hz').mono fun e W' ⟨he, hb⟩ => ?_
  exact ⟨_, he, law_post hl hs hr hu hp hW hb⟩
end Go.Proofs.YthcleiegefhmdaaDoor
