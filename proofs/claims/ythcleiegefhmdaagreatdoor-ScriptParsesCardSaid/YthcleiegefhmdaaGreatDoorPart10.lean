/-
  The walk of the document's pack.
  The walk of the document's step.
  The walk of script.Parse (under path.Check's contract).
  The walk of the document's Parse: it is what script.Parse is.
  The walks of the document's Same, of SameSteps and same, where the two are the same.
  The walk of script.Print.
-/
import Derived.Test.YthcleiegefhmdaaGreatDoorPart09
set_option linter.unusedSimpArgs false
set_option linter.unusedVariables false
set_option linter.unusedSectionVars false
set_option linter.unnecessarySimpa false
set_option linter.defProp false
namespace Go.Proofs.YthcleiegefhmdaaGreatDoor
open Go.RowKit Abs
theorem numQ_eq (l : List UInt8) (a b : Int) (h0 : -1 ≤ a) (h1 : a ≤ b) (h2 : 0 ≤ b) (h3 : b ≤ 9223372036854775807) : numQ l a b = if (numR l a b).2 = true then some (numR l a b).1 else none := by
  obtain ⟨g1, g2⟩ := num_tie l a b h0 h1 h2 h3
  unfold numQ
  rw [← g1]
  by_cases h : (numP l a b).2 = true
  · rw [if_pos h, if_pos h, g2 h]
  · rw [if_neg h, if_neg h]
def StepR (m : Mem) (r : Option (StepL × Nat)) (x : StepL) (V : Value) (ok : Bool) (M : Mem) : Prop :=
  Keeps m.size m M ∧ m.size ≤ M.size ∧ FilesAt M V x.files ∧ match r with
    | none => ok = false
    | some y => ok = true ∧ x = y.1
def RPackR (m : Mem) (r : Option (StepL × Nat)) (u : Value) (M : Mem) : Prop := ∃ x V ok, u = .tuple #[.agg (stepC (x, V)).toArray, .bool ok] ∧ StepR m r x V ok M
theorem build_step0 : aBuild Tryz.prog 52 [] = some (.agg #[.int .i64 0, .int .i64 0, .slice none 0 0, .string ⟨#[]⟩, .bool false, .int .i64 0, .int .i64 0]) := by kernel_rfl
theorem cut1_find (c : UInt8) (w : List UInt8) (t : Nat) (h : ¬ c ∈ w.take t) (ht : w[t]? = some c) : cut1 c w [] = (w.take t, w.drop (t + 1), true) := by
  have hl := (List.getElem?_eq_some_iff.1 ht).1
  have e : w = w.take t ++ c :: w.drop (t + 1) := by
    have := List.take_append_drop t w
    rw [List.drop_eq_getElem_cons hl, (List.getElem?_eq_some_iff.1 ht).2] at this
    exact this.symm
  conv => lhs; rw [e]
  rw [cut1_at c _ _ _ h]
  simp
set_option maxRecDepth 100000 in
set_option maxHeartbeats 4000000 in
theorem rpack_spec (ws : List (List UInt8)) (g n : Nat) (ro : Bool) (m : Mem) (hg : m.get g = some (.cells ro 1 (sC ws))) (hn : ws.length = n) (hn1 : 1 ≤ n) (hs : ∀ w ∈ ws, w.length ≤ 900000) (hn2 : n ≤ 900000) :
    Abs.Spec Tryz.prog 30 [.slice (some ⟨g, 0, none⟩) n n] m (RPackR m (packOf ws.tail)) := by
  refine Abs.Spec.walkM Tryz.func30 (by rfl) _ Tryz.results30 _ Tryz.ntmps30 (by simp) ?_
  intro hc hx k
  obtain ⟨R, hR⟩ : ∃ R, R = packOf ws.tail := ⟨_, rfl⟩
  rw [← hR]
  have hal := al_Step
  generalize aStride Tryz.prog 52 = s1 at hal
  have grow : ∀ M, (∀ b x, b < m.size → m.get b = some x → M.get b = some x) → Keeps m.size m M ∧ M.get g = some (.cells ro 1 (sC ws)) := fun M h => ⟨⟨fun b x _ hx => h b x (get_live hx) hx, fun b s cs hx => h b _ (get_live hx) hx⟩, h g _ (get_live hg) hg⟩
  have no : ∀ (M : Mem) (V : Value) (fs : List FileL), R = none → (∀ b x, b < m.size → m.get b = some x → M.get b = some x) → m.size ≤ M.size → (∃ M', Thin M M' ∧ (∀ b x, b < m.size → m.get b = some x → M'.get b = some x) ∧ M'.size = M.size ∧ FilesAt M' V fs) →
      ∃ m', Thin M m' ∧ RPackR m R (.tuple #[.agg #[.int .i64 0, .int .i64 0, V, .string ⟨#[]⟩, .bool false, .int .i64 0, .int .i64 0], .bool false]) m' := fun M V fs h h1 h2 h3 => by
    obtain ⟨M', h4, h5, h6, h7⟩ := h3
    exact ⟨M', h4, ⟨0, 0, fs, [], false, 0, 0⟩, V, false, rfl, (grow M' h5).1, by omega, h7, by rw [h]⟩
  have thin : ∀ (M : Mem) (V : Value) (fs : List FileL), (∀ b x, b < m.size → m.get b = some x → M.get b = some x) → FilesOwn (m.size + 1) M V fs → fs.length ≤ 1000000 → ∃ M', Thin M M' ∧ (∀ b x, b < m.size → m.get b = some x → M'.get b = some x) ∧ M'.size = M.size ∧ FilesAt M' V fs ∧ ∀ b, b ≤ m.size + 1 → M'.get b = M.get b := fun M V fs h1 h2 h3 => by
    rcases h2 with ⟨rfl, rfl⟩ | ⟨hf0, h', hh, rfl, hgh⟩
    · exact ⟨M, Thin.refl _, h1, rfl, FilesAt.nil M, fun _ _ => rfl⟩
    · refine ⟨fz1 h' M, fz1_thin _ _, fun b x hb hx => by rw [fz1_ne (by omega)]; exact h1 b x hb hx, by unfold fz1; rw [hgh]; simp only [Mem.size_set], ⟨some ⟨h', 0, none⟩, fs.length, rfl, Nat.le_refl _, by unfold maxLen; omega, (fun e => by cases e), (fun q hq => by cases hq; exact ⟨h', rfl, fun _ => fz1_get hgh⟩)⟩, fun b hb => fz1_ne (by omega)⟩
  refine CW_seq (CW_region ?_)
  simp only [zZ, reduceIte, Nat.reduceLT, Int.reduceToNat, Int.reduceLE, Int.reduceEq, Int.reduceLT, Nat.reduceEqDiff, Nat.reduceAdd, zTy, hal]
  refine CW_seq (CW_region ?_)
  obtain ⟨M0, hM0⟩ : ∃ M0, M0 = (m.push (.cells false s1 [.int .i64 0, .int .i64 0, .slice none 0 0, .string ⟨#[]⟩, .bool false, .int .i64 0, .int .i64 0])).push (.cells false s1 [.int .i64 0, .int .i64 0, .slice none 0 0, .string ⟨#[]⟩, .bool false, .int .i64 0, .int .i64 0]) := ⟨_, rfl⟩
  have push_set2 : ∀ (B C D : Blk), ((m.push B).push C).set (m.size + 1) (some D) = (m.push B).push D := fun B C D => by
    have := push_set (m.push B) C D
    rw [Mem.size_push] at this
    exact this
  have push_get2 : ∀ (B C : Blk), ((m.push B).push C).get (m.size + 1) = some C := fun B C => by
    have := Mem.get_push_new (m.push B) C
    rw [Mem.size_push] at this
    exact this
  simp only [zZ, reduceIte, Nat.reduceLT, Int.reduceToNat, Int.reduceLE, Int.reduceEq, Int.reduceLT, Nat.reduceEqDiff, Nat.reduceAdd, zTy, hal, build_step0, Mem.size_push, push_get2, push_set2]
  rw [← hM0]
  have hs0 : M0.size = m.size + 2 := by rw [hM0, Mem.size_push, Mem.size_push]
  have hold0 : ∀ b x, b < m.size → m.get b = some x → M0.get b = some x := fun b x hb hx => by rw [hM0, Mem.get_push_old (by rw [Mem.size_push]; omega), Mem.get_push_old hb]; exact hx
  have hr0 : M0.get m.size = some (.cells false s1 [.int .i64 0, .int .i64 0, .slice none 0 0, .string ⟨#[]⟩, .bool false, .int .i64 0, .int .i64 0]) := by rw [hM0, Mem.get_push_old (by rw [Mem.size_push]; omega), Mem.get_push_new]
  have hx0 : M0.get (m.size + 1) = some (.cells false s1 [.int .i64 0, .int .i64 0, .slice none 0 0, .string ⟨#[]⟩, .bool false, .int .i64 0, .int .i64 0]) := by rw [hM0]; exact push_get2 _ _
  clear hM0
  have hput : ∀ (M : Mem) (V : Value) (a : Option Addr) (l c : Nat), V = .slice a l c → M.get m.size = some (.cells false s1 [.int .i64 0, .int .i64 0, .slice none 0 0, .string ⟨#[]⟩, .bool false, .int .i64 0, .int .i64 0]) →
      putIn 7 M m.size 0 [.int .i64 0, .int .i64 0, V, .string ⟨#[]⟩, .bool false, .int .i64 0, .int .i64 0] (M.get m.size) = some (M.set m.size (some (.cells false s1 [.int .i64 0, .int .i64 0, V, .string ⟨#[]⟩, .bool false, .int .i64 0, .int .i64 0]))) := fun M V a l c hV h => by rw [h, hV]; rfl
  refine CW_seq (CW_seq (CW_region ?_))
  simp only [zZ, reduceIte, Nat.reduceLT, Int.reduceToNat, Int.reduceLE, Int.reduceEq, Int.reduceLT, Nat.reduceEqDiff, Nat.reduceAdd, zTy]
  refine CW_block (MW_loop (fun j f M => ∃ (t : Nat) (fs : List FileL) (V : Value), t + j = n ∧ 1 ≤ t ∧ fs.length + 1 = t ∧ filesOf ws.tail = (filesOf (ws.drop t)).map (fs ++ ·) ∧ f = [(0, .slice (some ⟨g, 0, none⟩) n n), (2, .pointer (some ⟨m.size, 0, none⟩)), (4, .pointer (some ⟨m.size + 1, 0, none⟩)), (5, .int .i64 (t : Nat))] ∧
    (∀ b x, b < m.size → m.get b = some x → M.get b = some x) ∧ m.size + 1 < M.size ∧ M.get m.size = some (.cells false s1 [.int .i64 0, .int .i64 0, .slice none 0 0, .string ⟨#[]⟩, .bool false, .int .i64 0, .int .i64 0]) ∧
    M.get (m.size + 1) = some (.cells false s1 [.int .i64 0, .int .i64 0, V, .string ⟨#[]⟩, .bool false, .int .i64 0, .int .i64 0]) ∧ FilesOwn (m.size + 1) M V fs) (n - 1) ?_ ?_)
  · refine ⟨[0, 2, 4, 5], ?_⟩
    simp only [zZ, reduceIte, Nat.reduceLT, Int.reduceToNat, Int.reduceLE, Int.reduceEq, Int.reduceLT, Nat.reduceEqDiff, Nat.reduceAdd, keepF]
    exact ⟨_, Thin.refl _, 1, [], _, by omega, by omega, rfl, by rw [List.drop_one]; simp, rfl, hold0, by omega, hr0, hx0, .inl ⟨rfl, rfl⟩⟩
  · rintro j f M ⟨t, fs, V, htj, ht1, hft, hun, rfl, hold, hms, hr, hbx, hfo⟩
    obtain ⟨hkM, hgM⟩ := grow M hold
    have hfl : fs.length ≤ 1000000 := by omega
    obtain ⟨va, vl, vc, hva⟩ : ∃ a l c, V = .slice a l c := by
      rcases hfo with ⟨_, h⟩ | ⟨_, g, _, h, _⟩
      · exact ⟨_, _, _, h⟩
      · exact ⟨_, _, _, h⟩
    refine CW_seq (CW_seq (CW_region ?_))
    simp only [zZ, reduceIte, Nat.reduceLT, Int.reduceToNat, Int.reduceLE, Int.reduceEq, Int.reduceLT, Nat.reduceEqDiff, Nat.reduceAdd, zTy]
    refine CW_cond (decide ((t : Int) < (n : Int))) (by rfl) (fun h => CW_skip ?_) (fun h => CW_exit ?_)
    · simp only [zZ, reduceIte, Nat.reduceLT, Int.reduceToNat, Int.reduceLE, Int.reduceEq, Int.reduceLT, Nat.reduceEqDiff, Nat.reduceAdd]
      have htl : t < n := by have := of_decide_eq_true h; omega
      have h0 : (0 : Int) ≤ (t : Int) := by omega
      have h1 : (t : Int) < (n : Int) := by omega
      obtain ⟨w, hw⟩ : ∃ w, ws[t]? = some w := ⟨_, List.getElem?_eq_getElem (by omega)⟩
      have aw := get_str ws t w hw
      have hws := hs w (List.mem_of_getElem? hw)
      have dw := drop_get hw
      have hxi : IntKind.i64.wrap ((t : Int) + 1) = ((t + 1 : Nat) : Int) := by rw [wr (by omega) (by omega)]; omega
      have bad : fileOf w = none → R = none := fun h => by rw [hR, packOf, hun, dw, filesOf, h]; rfl
      have badT : fileOf w = none → ∀ s2 : Value, s2 = V → ∃ m', Thin (M.set m.size (some (.cells false s1 [.int .i64 0, .int .i64 0, V, .string ⟨#[]⟩, .bool false, .int .i64 0, .int .i64 0]))) m' ∧ RPackR m R (.tuple #[.agg #[.int .i64 0, .int .i64 0, V, .string ⟨#[]⟩, .bool false, .int .i64 0, .int .i64 0], .bool false]) m' := fun h _ _ => by
        have hold2 : ∀ b x, b < m.size → m.get b = some x → (M.set m.size (some (.cells false s1 [.int .i64 0, .int .i64 0, V, .string ⟨#[]⟩, .bool false, .int .i64 0, .int .i64 0]))).get b = some x := fun b x hb hx => by rw [Mem.get_set_ne (by omega)]; exact hold b x hb hx
        refine no _ V fs (bad h) hold2 (by rw [Mem.size_set]; omega) ?_
        obtain ⟨M', g1, g2, g3, g4, _⟩ := thin _ V fs hold2 (by
          rcases hfo with h | ⟨h5, g, h6, h7, h8⟩
          · exact .inl h
          · exact .inr ⟨h5, g, h6, h7, by rw [Mem.get_set_ne (by omega)]; exact h8⟩) hfl
        exact ⟨M', g1, g2, g3, g4⟩
      refine CW_seq (CW_block (CW_seq (CW_region ?_)))
      simp only [zZ, reduceIte, Nat.reduceLT, Int.reduceToNat, Int.reduceLE, Int.reduceEq, Int.reduceLT, Nat.reduceEqDiff, Nat.reduceAdd, zTy]
      -- up to the colon
      refine MW_mid (fun f M' => ∃ u : Nat, M' = M ∧ u ≤ w.length ∧ ¬ 58 ∈ w.take u ∧ (u < w.length → w[u]? = some 58) ∧ f = [(0, .slice (some ⟨g, 0, none⟩) n n), (2, .pointer (some ⟨m.size, 0, none⟩)), (4, .pointer (some ⟨m.size + 1, 0, none⟩)), (5, .int .i64 (t : Nat)), (6, .int .i64 (u : Nat))]) ?_ ?_
      · refine CW_block (MW_loop (fun j f M' => ∃ u : Nat, M' = M ∧ u + j = w.length ∧ ¬ 58 ∈ w.take u ∧ f = [(0, .slice (some ⟨g, 0, none⟩) n n), (2, .pointer (some ⟨m.size, 0, none⟩)), (4, .pointer (some ⟨m.size + 1, 0, none⟩)), (5, .int .i64 (t : Nat)), (6, .int .i64 (u : Nat))]) w.length ?_ ?_)
        · refine ⟨[0, 2, 4, 5, 6], ?_⟩
          simp only [zZ, reduceIte, Nat.reduceLT, Int.reduceToNat, Int.reduceLE, Int.reduceEq, Int.reduceLT, Nat.reduceEqDiff, Nat.reduceAdd, keepF]
          exact ⟨M, Thin.refl _, 0, rfl, by omega, by simp, rfl⟩
        · rintro j2 f M2 ⟨u, hM2, huj, hno, rfl⟩
          subst hM2
          have hui : IntKind.i64.wrap ((u : Int) + 1) = ((u + 1 : Nat) : Int) := by rw [wr (by omega) (by omega)]; omega
          refine CW_seq (CW_seq (CW_region ?_))
          cases c1 : decide ((u : Int) < (w.length : Int))
          · simp only [zZ, reduceIte, Nat.reduceLT, Int.reduceToNat, Int.reduceLE, Int.reduceEq, Int.reduceLT, Nat.reduceEqDiff, Nat.reduceAdd, zTy, h0, h1, and_self, hgM, aw, bsize_str, c1]
            refine CW_cond false (by rfl) (fun h => by cases h) (fun _ => CW_exit ?_)
            simp only [zZ, reduceIte, Nat.reduceLT, Int.reduceToNat, Int.reduceLE, Int.reduceEq, Int.reduceLT, Nat.reduceEqDiff, Nat.reduceAdd]
            refine ⟨[0, 2, 4, 5, 6], ?_⟩
            simp only [zZ, reduceIte, Nat.reduceLT, Int.reduceToNat, Int.reduceLE, Int.reduceEq, Int.reduceLT, Nat.reduceEqDiff, Nat.reduceAdd, keepF]
            have := of_decide_eq_false c1
            exact ⟨_, Thin.refl _, u, rfl, by omega, hno, fun h => by omega, rfl⟩
          · have hul := of_decide_eq_true c1
            obtain ⟨b, hb⟩ : ∃ b, w[u]? = some b := ⟨_, List.getElem?_eq_getElem (by omega)⟩
            have ib := idx_str w u b hb
            have e58 : ((b.toNat : Int) != 58) = !decide (b = 58) := congrArg (!·) (u8_eql b 58)
            simp only [zZ, reduceIte, Nat.reduceLT, Int.reduceToNat, Int.reduceLE, Int.reduceEq, Int.reduceLT, Nat.reduceEqDiff, Nat.reduceAdd, zTy, h0, h1, and_self, hgM, aw, bsize_str, c1, ib, e58]
            refine CW_cond (!decide (b = 58)) (by rfl) (fun h => CW_skip ?_) (fun h => CW_exit ?_)
            · simp only [zZ, reduceIte, Nat.reduceLT, Int.reduceToNat, Int.reduceLE, Int.reduceEq, Int.reduceLT, Nat.reduceEqDiff, Nat.reduceAdd]
              refine CW_block (CW_region ?_)
              simp only [zZ, reduceIte, Nat.reduceLT, Int.reduceToNat, Int.reduceLE, Int.reduceEq, Int.reduceLT, Nat.reduceEqDiff, Nat.reduceAdd, zTy, hui]
              refine ⟨[0, 2, 4, 5, 6], ?_⟩
              simp only [zZ, reduceIte, Nat.reduceLT, Int.reduceToNat, Int.reduceLE, Int.reduceEq, Int.reduceLT, Nat.reduceEqDiff, Nat.reduceAdd, keepF]
              refine ⟨_, Thin.refl _, j2 - 1, ⟨u + 1, rfl, by omega, ?_, rfl⟩, by omega⟩
              rw [List.take_add_one, hb]
              simp only [Option.toList, List.mem_append, List.mem_singleton]
              rintro (h' | h')
              · exact hno h'
              · rw [← h'] at h; simp at h
            · simp only [zZ, reduceIte, Nat.reduceLT, Int.reduceToNat, Int.reduceLE, Int.reduceEq, Int.reduceLT, Nat.reduceEqDiff, Nat.reduceAdd]
              refine ⟨[0, 2, 4, 5, 6], ?_⟩
              simp only [zZ, reduceIte, Nat.reduceLT, Int.reduceToNat, Int.reduceLE, Int.reduceEq, Int.reduceLT, Nat.reduceEqDiff, Nat.reduceAdd, keepF]
              exact ⟨_, Thin.refl _, u, rfl, by omega, hno, fun _ => by rw [hb]; simp at h; rw [h], rfl⟩
      · rintro f M2 ⟨u, hM2, hul, hno, hat, rfl⟩
        subst hM2
        refine CW_seq (CW_seq (CW_region ?_))
        simp only [zZ, reduceIte, Nat.reduceLT, Int.reduceToNat, Int.reduceLE, Int.reduceEq, Int.reduceLT, Nat.reduceEqDiff, Nat.reduceAdd, zTy, h0, h1, and_self, hgM, aw, bsize_str]
        refine CW_cond ((u : Int) == (w.length : Int)) (by rfl) (fun h => CW_seq (CW_region ?_)) (fun h => CW_skip ?_)
        · have hu : u = w.length := by rw [beq_iff_eq] at h; omega
          have hcut : cut1 58 w [] = (w, [], false) := by
            rw [hu, List.take_length] at hno
            have := cut1_not 58 w [] hno
            simpa using this
          have hpu := hput M2 V va vl vc hva hr
          simp only [zZ, reduceIte, Nat.reduceLT, Int.reduceToNat, Int.reduceLE, Int.reduceEq, Int.reduceLT, Nat.reduceEqDiff, Nat.reduceAdd, zTy, hbx, hpu]
          refine CW_ret ?_
          simp only [zZ, reduceIte, Nat.reduceLT, Int.reduceToNat, Int.reduceLE, Int.reduceEq, Int.reduceLT, Nat.reduceEqDiff, Nat.reduceAdd, zTy, mEnd, sAnswer, sAnswer.sRes, aLoad_g, Mem.get_set_same hr]
          exact badT (by unfold fileOf; rw [hcut]; rfl) V rfl
        have hu : u < w.length := by rw [beq_eq_false_iff_ne] at h; omega
        have hcut := cut1_find 58 w u hno (hat hu)
        have hu1 : IntKind.i64.wrap ((u : Int) + 1) = ((u + 1 : Nat) : Int) := by rw [wr (by omega) (by omega)]; omega
        have sl1 : ∀ get : Nat → Option Blk, gSlice Tryz.prog get 9 (.string (str w)) none (some (.int .i64 (u : Nat))) = some (.string (str (w.take u))) := fun get => by
          rw [slice_str (str w) _ (by omega) (by rw [bsize_str]; omega), Int.toNat_natCast]; rfl
        have sl2 := fun get => slice_tail get w (u + 1) (by omega)
        simp only [zZ, reduceIte, Nat.reduceLT, Int.reduceToNat, Int.reduceLE, Int.reduceEq, Int.reduceLT, Nat.reduceEqDiff, Nat.reduceAdd]
        refine CW_seq (CW_region ?_)
        simp only [zZ, reduceIte, Nat.reduceLT, Int.reduceToNat, Int.reduceLE, Int.reduceEq, Int.reduceLT, Nat.reduceEqDiff, Nat.reduceAdd, zTy, h0, h1, and_self, hgM, aw, sl1]
        refine ⟨by kernel_rfl, _, rbytes_spec (w.take u) (by rw [List.length_take]; omega) _, ?_⟩
        rintro _ M9 ⟨rfl, e9⟩
        replace e9 := e9.symm
        subst e9
        simp only [zZ, reduceIte, Nat.reduceLT, Int.reduceToNat, Int.reduceLE, Int.reduceEq, Int.reduceLT, Nat.reduceEqDiff, Nat.reduceAdd, zTy]
        refine CW_seq (CW_region ?_)
        simp only [zZ, reduceIte, Nat.reduceLT, Int.reduceToNat, Int.reduceLE, Int.reduceEq, Int.reduceLT, Nat.reduceEqDiff, Nat.reduceAdd, zTy, h0, h1, and_self, hgM, aw, hu1, sl2]
        refine ⟨by kernel_rfl, _, rbytes_spec (w.drop (u + 1)) (by rw [List.length_drop]; omega) _, ?_⟩
        rintro _ M9 ⟨rfl, e9⟩
        replace e9 := e9.symm
        subst e9
        simp only [zZ, reduceIte, Nat.reduceLT, Int.reduceToNat, Int.reduceLE, Int.reduceEq, Int.reduceLT, Nat.reduceEqDiff, Nat.reduceAdd, zTy]
        have hfile : fileOf w = if (unhexV (w.take u)).2 = true ∧ (unhexV (w.drop (u + 1))).2 = true then some ((unhexV (w.take u)).1, (unhexV (w.drop (u + 1))).1) else none := by unfold fileOf; rw [hcut]; simp
        obtain ⟨u1, o1, hq1⟩ : ∃ u1 o1, unhexV (w.take u) = (u1, o1) := ⟨_, _, rfl⟩
        obtain ⟨u2, o2, hq2⟩ : ∃ u2 o2, unhexV (w.drop (u + 1)) = (u2, o2) := ⟨_, _, rfl⟩
        rw [hq1, hq2] at hfile ⊢
        simp only at hfile ⊢
        refine CW_seq (CW_seq (CW_region ?_))
        cases o1 <;> cases o2 <;> simp only [zZ, reduceIte, Nat.reduceLT, Int.reduceToNat, Int.reduceLE, Int.reduceEq, Int.reduceLT, Nat.reduceEqDiff, Nat.reduceAdd, zTy]
        case' true.true =>
          have hfile : fileOf w = some (u1, u2) := hfile
          refine CW_cond false (by rfl) (fun h => by cases h) (fun _ => CW_skip ?_)
          simp only [zZ, reduceIte, Nat.reduceLT, Int.reduceToNat, Int.reduceLE, Int.reduceEq, Int.reduceLT, Nat.reduceEqDiff, Nat.reduceAdd]
          refine CW_region ?_
          obtain ⟨M', ha1, hs1, hg1, hold1⟩ := fapp hfo hms (by omega) (u1, u2)
          simp only at ha1
          have hbx1 := hold1 (m.size + 1) _ (Nat.le_refl _) hbx
          have hr1 := hold1 m.size _ (by omega) hr
          simp only [zZ, reduceIte, Nat.reduceLT, Int.reduceToNat, Int.reduceLE, Int.reduceEq, Int.reduceLT, Nat.reduceEqDiff, Nat.reduceAdd, zTy, hbx, build_file, new_file1, ha1, hbx1]
          refine CW_region ?_
          simp only [zZ, reduceIte, Nat.reduceLT, Int.reduceToNat, Int.reduceLE, Int.reduceEq, Int.reduceLT, Nat.reduceEqDiff, Nat.reduceAdd, zTy, hxi]
          refine ⟨[0, 2, 4, 5], ?_⟩
          simp only [zZ, reduceIte, Nat.reduceLT, Int.reduceToNat, Int.reduceLE, Int.reduceEq, Int.reduceLT, Nat.reduceEqDiff, Nat.reduceAdd, keepF]
          refine ⟨_, Thin.refl _, j - 1, ⟨t + 1, fs ++ [(u1, u2)], _, by omega, by omega, by simp; omega, ?_, rfl, fun b x hb hx => ?_, by rw [Mem.size_set]; omega, by rw [Mem.get_set_ne (by omega)]; exact hr1, Mem.get_set_same hbx1 _, .inr ⟨by simp, M2.size + 1, by omega, by simp, ?_⟩⟩, by omega⟩
          · rw [hun, dw, filesOf, hfile, Option.map_map]
            cases filesOf (ws.drop (t + 1)) <;> simp
          · rw [Mem.get_set_ne (by omega)]
            exact hold1 b x (by omega) (hold b x hb hx)
          · rw [Mem.get_set_ne (by omega)]; exact hg1
        all_goals
          refine CW_cond true (by rfl) (fun _ => CW_seq (CW_region ?_)) (fun h => by cases h)
          have hpu := hput M2 V va vl vc hva hr
          simp only [zZ, reduceIte, Nat.reduceLT, Int.reduceToNat, Int.reduceLE, Int.reduceEq, Int.reduceLT, Nat.reduceEqDiff, Nat.reduceAdd, zTy, hbx, hpu]
          refine CW_ret ?_
          simp only [zZ, reduceIte, Nat.reduceLT, Int.reduceToNat, Int.reduceLE, Int.reduceEq, Int.reduceLT, Nat.reduceEqDiff, Nat.reduceAdd, zTy, mEnd, sAnswer, sAnswer.sRes, aLoad_g, Mem.get_set_same hr]
          exact badT (by rw [hfile]; rfl) V rfl
    · simp only [zZ, reduceIte, Nat.reduceLT, Int.reduceToNat, Int.reduceLE, Int.reduceEq, Int.reduceLT, Nat.reduceEqDiff, Nat.reduceAdd]
      have htl : t = n := by have := of_decide_eq_false h; omega
      have hdn : ws.drop t = [] := List.drop_eq_nil_of_le (by omega)
      rw [hdn, filesOf] at hun
      have hun : filesOf ws.tail = some fs := by rw [hun]; simp
      have hR1 : R = if checkV fs = 0 then some (⟨0, 0, fs, [], false, 0, 0⟩, 1) else none := by rw [hR, packOf, hun]
      obtain ⟨M1, hth, hold1, hms1, hfa, hsame⟩ := thin M V fs hold hfo hfl
      refine CW_thin hth ?_
      have hbx1 : M1.get (m.size + 1) = some (.cells false s1 [.int .i64 0, .int .i64 0, V, .string ⟨#[]⟩, .bool false, .int .i64 0, .int .i64 0]) := by rw [hsame _ (by omega)]; exact hbx
      have hr1 : M1.get m.size = some (.cells false s1 [.int .i64 0, .int .i64 0, .slice none 0 0, .string ⟨#[]⟩, .bool false, .int .i64 0, .int .i64 0]) := by rw [hsame _ (by omega)]; exact hr
      obtain ⟨va, vc, hva, _⟩ := id hfa
      have hfm := filesOf_mem hun
      have hfl2 : ∀ f ∈ fs, f.1.length ≤ 999999 := fun f hf => by
        obtain ⟨w, hw, he⟩ := hfm.2 f hf
        have := fileOf_len he
        have := hs w (List.mem_of_mem_tail hw)
        omega
      subst hva
      have hpu := hput M1 (.slice va fs.length vc) va fs.length vc rfl hr1
      refine CW_seq (CW_draw4 hmix 5 [4] (by kernel_rfl) ?_)
      simp only [zZ, reduceIte, Nat.reduceLT, Int.reduceToNat, Int.reduceLE, Int.reduceEq, Int.reduceLT, Nat.reduceEqDiff, Nat.reduceAdd, zTy, hbx1]
      refine ⟨by kernel_rfl, _, rfcheck_spec fs va vc _ hfa.rd hfl2 (by omega), ?_⟩
      simp only [sQB, idleOK, List.getElem?_cons_succ, List.getElem?_cons_zero, Option.bind_some, zZ, reduceIte, Nat.reduceLT, Int.reduceToNat, Int.reduceLE, Int.reduceEq, Int.reduceLT, Nat.reduceEqDiff, Nat.reduceAdd, zTy, hpu]
      refine ⟨⟨_, rfl, rfl⟩, ?_⟩
      refine CW_ret ?_
      simp only [zZ, reduceIte, Nat.reduceLT, Int.reduceToNat, Int.reduceLE, Int.reduceEq, Int.reduceLT, Nat.reduceEqDiff, Nat.reduceAdd, zTy, mEnd, sAnswer, sAnswer.sRes, aLoad_g, Mem.get_set_same hr1]
      have hks : Keeps 0 M1 (M1.set m.size (some (.cells false s1 [.int .i64 0, .int .i64 0, .slice va fs.length vc, .string ⟨#[]⟩, .bool false, .int .i64 0, .int .i64 0]))) := Keeps.set (Nat.zero_le _) hr1 _
      refine ⟨_, Thin.refl _, ⟨0, 0, fs, [], false, 0, 0⟩, .slice va fs.length vc, _, rfl, (grow _ fun b x hb hx => by rw [Mem.get_set_ne (by omega)]; exact hold1 b x hb hx).1, by rw [Mem.size_set]; omega, hks.files hfa, ?_⟩
      rw [hR1]
      by_cases hz : checkV fs = 0
      · rw [if_pos hz]; exact ⟨by rw [hz]; rfl, rfl⟩
      · rw [if_neg hz]; simpa using hz
end Go.Proofs.YthcleiegefhmdaaGreatDoor
namespace Go.Proofs.YthcleiegefhmdaaGreatDoor
open Go.RowKit Abs
def StepM (r : Option (StepL × Nat)) (x : StepL) (times : Int) (ok : Bool) : Prop := match r with
  | none => ok = false
  | some y => ok = true ∧ x = y.1 ∧ times = y.2
def RStepR (m : Mem) (r : Option (StepL × Nat)) (u : Value) (M : Mem) : Prop :=
  ∃ (x : StepL) (V : Value) (times : Int) (ok : Bool), u = .tuple #[.agg (stepC (x, V)).toArray, .int .i64 times, .bool ok] ∧ Keeps m.size m M ∧ m.size ≤ M.size ∧ FilesAt M V x.files ∧ StepM r x times ok
theorem tickOf_none (r : List (List UInt8)) (h : r.length ≠ 1) : tickOf r = none := by
  match r, h with
  | [], _ => rfl
  | [_], h => exact absurd rfl h
  | _ :: _ :: _, _ => rfl
theorem sideOf_none (r : List (List UInt8)) (a b : Int) (h : r.length ≠ 2) : sideOf r a b = none := by
  match r, h with
  | [], _ => rfl
  | [_], _ => rfl
  | [_, _], h => exact absurd rfl h
  | _ :: _ :: _ :: _, _ => rfl
theorem injectOf_none (r : List (List UInt8)) (h : r.length ≠ 3) : injectOf r = none := by
  match r, h with
  | [], _ => rfl
  | [_], _ => rfl
  | [_, _], _ => rfl
  | [_, _, _], h => exact absurd rfl h
  | _ :: _ :: _ :: _ :: _, _ => rfl
theorem fateOf_none (r : List (List UInt8)) (h : r.length ≠ 1) (h2 : r.length ≠ 2) : fateOf r = none := by
  match r, h, h2 with
  | [], _, _ => rfl
  | [_], h, _ => exact absurd rfl h
  | [_, _], _, h => exact absurd rfl h
  | _ :: _ :: _ :: _, _, _ => rfl
theorem stepOf_none (w0 : List UInt8) (r : List (List UInt8)) (h0 : ¬ w0 = wPack) (h1 : ¬ (w0 = wTick ∧ r.length = 1)) (h2 : ¬ ((w0 = wFuse ∨ w0 = wCrash) ∧ r.length = 2)) (h3 : ¬ (w0 = wInject ∧ r.length = 3)) (h4 : ¬ (w0 = wFate ∧ r.length = 1)) (h5 : ¬ (w0 = wFate ∧ r.length = 2)) : stepOf (w0 :: r) = none := by
  rw [stepOf, if_neg h0]
  split
  · rename_i h; exact tickOf_none r fun e => h1 ⟨h, e⟩
  · split
    · rename_i h; exact sideOf_none r _ _ fun e => h2 ⟨.inl h, e⟩
    · split
      · rename_i h; exact sideOf_none r _ _ fun e => h2 ⟨.inr h, e⟩
      · split
        · rename_i h; exact injectOf_none r fun e => h3 ⟨h, e⟩
        · split
          · rename_i h; exact fateOf_none r (fun e => h4 ⟨h, e⟩) (fun e => h5 ⟨h, e⟩)
          · rfl
theorem build_stepI2 (k n : Int) (t : ByteArray) (b : Bool) (d c : Int) : aBuild Tryz.prog 52 [(0, .int .i64 k), (1, .int .i64 n), (3, .string t), (4, .agg #[.bool b, .int .i64 d, .int .i64 c])] = some (.agg #[.int .i64 k, .int .i64 n, .slice none 0 0, .string t, .bool b, .int .i64 d, .int .i64 c]) := by kernel_rfl
theorem sideV_eq (s : List UInt8) : sideV s = if s = wSender then 1 else if s = wReceiver then 0 else -1 := rfl
set_option maxRecDepth 100000 in
set_option maxHeartbeats 4000000 in
theorem rstep_spec (ws : List (List UInt8)) (g n : Nat) (ro : Bool) (m : Mem) (hg : m.get g = some (.cells ro 1 (sC ws))) (hn : ws.length = n) (hn1 : 1 ≤ n) (hs : ∀ w ∈ ws, w.length ≤ 900000) (hn2 : n ≤ 900000) :
    Abs.Spec Tryz.prog 14 [.slice (some ⟨g, 0, none⟩) n n] m (RStepR m (stepOf ws)) := by
  refine Abs.Spec.walkM Tryz.func14 (by rfl) _ Tryz.results14 _ Tryz.ntmps14 (by simp) ?_
  intro hc hx k
  obtain ⟨w0, r, rfl⟩ : ∃ w0 r, ws = w0 :: r := by
    cases ws with
    | nil => simp at hn; omega
    | cons w0 r => exact ⟨w0, r, rfl⟩
  obtain ⟨R, hR⟩ : ∃ R, R = stepOf (w0 :: r) := ⟨_, rfl⟩
  rw [← hR]
  have hal := al_Step
  generalize aStride Tryz.prog 52 = s1 at hal
  have fin : ∀ (cs : List Value) (k' nn : Int) (t : List UInt8) (b : Bool) (d c times : Int) (ok : Bool), StepM R ⟨k', nn, [], t, b, d, c⟩ times ok → ∃ m', Thin (m.push (.cells false s1 cs)) m' ∧ RStepR m R (.tuple #[.agg #[.int .i64 k', .int .i64 nn, .slice none 0 0, .string (str t), .bool b, .int .i64 d, .int .i64 c], .int .i64 times, .bool ok]) m' := fun cs k' nn t b d c times ok h =>
    ⟨_, Thin.refl _, ⟨k', nn, [], t, b, d, c⟩, _, times, ok, rfl, Keeps.push _ _ _, by rw [Mem.size_push]; omega, FilesAt.nil _, h⟩
  have e0 : beqB (str w0) ⟨#[112, 97, 99, 107]⟩ = decide (w0 = wPack) := beqB_str w0 _
  have e1 : beqB (str w0) ⟨#[116, 105, 99, 107]⟩ = decide (w0 = wTick) := beqB_str w0 _
  have e2 : beqB (str w0) ⟨#[102, 117, 115, 101]⟩ = decide (w0 = wFuse) := beqB_str w0 _
  have e3 : beqB (str w0) ⟨#[99, 114, 97, 115, 104]⟩ = decide (w0 = wCrash) := beqB_str w0 _
  have e4 : beqB (str w0) ⟨#[105, 110, 106, 101, 99, 116]⟩ = decide (w0 = wInject) := beqB_str w0 _
  have e5 : beqB (str w0) ⟨#[102, 97, 116, 101]⟩ = decide (w0 = wFate) := beqB_str w0 _
  have hget0 : (sC (w0 :: r))[0]? = some (.string (str w0)) := rfl
  have h1n : (0 : Int) < (n : Int) := by omega
  have hgp : ∀ B : Blk, (m.push B).get g = some (.cells ro 1 (sC (w0 :: r))) := fun B => by rw [Mem.get_push_old (get_live hg)]; exact hg
  refine CW_seq (CW_region ?_)
  simp only [zZ, reduceIte, Nat.reduceLT, Int.reduceToNat, Int.reduceLE, Int.reduceEq, Int.reduceLT, Nat.reduceEqDiff, Nat.reduceAdd, zTy, hal]
  obtain ⟨Z, hZ⟩ : ∃ Z : List Value, Z = [.int .i64 0, .int .i64 0, .slice none 0 0, .string ⟨#[]⟩, .bool false, .int .i64 0, .int .i64 0] := ⟨_, rfl⟩
  have zput : ∀ (a b c d e f' h' : Value), oneAll [a, b, c, d, e, f', h'] = true → putIn 7 (m.push (.cells false s1 Z)) m.size 0 [a, b, c, d, e, f', h'] (some (.cells false s1 Z)) = some (m.push (.cells false s1 [a, b, c, d, e, f', h'])) := fun a b c d e f' h' ho => by
    rw [hZ, pt_7_0_7 _ _ _ _ _ _ _ _ _ _ _ _ _ _ _ _ _ ho, push_set]
  -- pack
  refine MW_mid (fun f M => f = [(0, .slice (some ⟨g, 0, none⟩) n n), (2, .pointer (some ⟨m.size, 0, none⟩))] ∧ M = m.push (.cells false s1 Z) ∧ ¬ w0 = wPack) (CW_seq (CW_region ?_)) ?_
  · simp only [zZ, reduceIte, Nat.reduceLT, Int.reduceToNat, Int.reduceLE, Int.reduceEq, Int.reduceLT, Nat.reduceEqDiff, Nat.reduceAdd, zTy, h1n, hgp, hget0, e0]
    refine CW_cond (decide (w0 = wPack)) (by rfl) (fun c0 => CW_seq (CW_region ?_)) (fun c0 => CW_skip ?_)
    · have c0 := of_decide_eq_true c0
      simp only [zZ, reduceIte, Nat.reduceLT, Int.reduceToNat, Int.reduceLE, Int.reduceEq, Int.reduceLT, Nat.reduceEqDiff, Nat.reduceAdd, zTy]
      refine ⟨by kernel_rfl, _, rpack_spec (w0 :: r) g n ro _ (hgp _) hn hn1 hs hn2, ?_⟩
      rintro _ M ⟨x, V, ok, rfl, h1, h2, h3, h4⟩
      rw [Mem.size_push] at h1 h2
      obtain ⟨va, vc, hva, _⟩ := id h3
      subst hva
      have hM : M.get m.size = some (.cells false s1 [.int .i64 0, .int .i64 0, .slice none 0 0, .string ⟨#[]⟩, .bool false, .int .i64 0, .int .i64 0]) := h1.1 _ _ (by omega) (Mem.get_push_new m _)
      have hkM : Keeps m.size m M := (Keeps.push m.size m _).trans ⟨fun b x hb hx => h1.1 b x (by omega) hx, h1.2⟩
      have pget : ∀ B : Blk, (M.push B).get m.size = some (.cells false s1 [.int .i64 0, .int .i64 0, .slice none 0 0, .string ⟨#[]⟩, .bool false, .int .i64 0, .int .i64 0]) := fun B => by rw [Mem.get_push_old (by omega)]; exact hM
      simp only [stepC, zZ, reduceIte, Nat.reduceLT, Int.reduceToNat, Int.reduceLE, Int.reduceEq, Int.reduceLT, Nat.reduceEqDiff, Nat.reduceAdd, zTy, hal, Mem.get_push_new, push_set]
      refine CW_seq (CW_region ?_)
      simp only [zZ, reduceIte, Nat.reduceLT, Int.reduceToNat, Int.reduceLE, Int.reduceEq, Int.reduceLT, Nat.reduceEqDiff, Nat.reduceAdd, zTy, Mem.get_push_new, pget]
      refine CW_ret ?_
      simp only [zZ, reduceIte, Nat.reduceLT, Int.reduceToNat, Int.reduceLE, Int.reduceEq, Int.reduceLT, Nat.reduceEqDiff, Nat.reduceAdd, zTy, mEnd, sAnswer, sAnswer.sRes, aLoad_g, Mem.get_set_same (pget _)]
      refine ⟨_, Thin.refl _, x, .slice va x.files.length vc, 1, ok, rfl, ?_, by rw [Mem.size_set, Mem.size_push]; omega, ?_, ?_⟩
      · exact (hkM.trans (Keeps.push _ _ _)).trans (Keeps.set (Nat.le_refl _) (pget _) _)
      · exact ((Keeps.push 0 M _).trans (Keeps.set (Nat.zero_le _) (pget _) _)).files h3
      · have hR2 : R = packOf r := by rw [hR, stepOf, if_pos c0]
        rw [hR2]
        revert h4
        simp only [List.tail_cons]
        unfold StepM
        cases hp : packOf r with
        | none => exact fun h => h
        | some y =>
          rintro ⟨h5, h6⟩
          refine ⟨h5, h6, ?_⟩
          unfold packOf at hp
          split at hp
          · cases hp
          · split at hp
            · cases hp; rfl
            · cases hp
    · simp only [zZ, reduceIte, Nat.reduceLT, Int.reduceToNat, Int.reduceLE, Int.reduceEq, Int.reduceLT, Nat.reduceEqDiff, Nat.reduceAdd]
      refine ⟨[0, 2], ?_⟩
      simp only [zZ, reduceIte, Nat.reduceLT, Int.reduceToNat, Int.reduceLE, Int.reduceEq, Int.reduceLT, Nat.reduceEqDiff, Nat.reduceAdd, keepF]
      exact ⟨_, Thin.refl _, by rw [hZ], of_decide_eq_false c0⟩
  rintro f M ⟨rfl, rfl, h0⟩
  -- tick
  refine MW_mid (fun f M => f = [(0, .slice (some ⟨g, 0, none⟩) n n), (2, .pointer (some ⟨m.size, 0, none⟩))] ∧ M = m.push (.cells false s1 Z) ∧ ¬ (w0 = wTick ∧ r.length = 1)) (CW_seq (CW_region ?_)) ?_
  · by_cases hb : w0 = wTick ∧ r.length = 1
    · obtain ⟨c0, hl⟩ := hb
      obtain ⟨w1, rfl⟩ : ∃ w1, r = [w1] := by
        match r, hl with
        | [w1], _ => exact ⟨w1, rfl⟩
      have hn' : n = 2 := hn.symm
      subst hn'
      have l2 : ((2 : Nat) : Int) = 2 := rfl
      have z2 : ((2 : Int) == 2) = true := rfl
      have t0 : decide (w0 = wTick) = true := decide_eq_true c0
      have hget1 : (sC [w0, w1])[1]? = some (.string (str w1)) := rfl
      simp only [zZ, reduceIte, Nat.reduceLT, Int.reduceToNat, Int.reduceLE, Int.reduceEq, Int.reduceLT, Nat.reduceEqDiff, Nat.reduceAdd, zTy, l2, z2, hgp, hget0, e1, t0]
      refine CW_cond true (by rfl) (fun _ => CW_seq (CW_region ?_)) (fun h => by cases h)
      simp only [zZ, reduceIte, Nat.reduceLT, Int.reduceToNat, Int.reduceLE, Int.reduceEq, Int.reduceLT, Nat.reduceEqDiff, Nat.reduceAdd, zTy, l2, hgp, hget1]
      refine ⟨by kernel_rfl, _, rnumber_spec w1 1 1000 (by omega) (by omega) _, ?_⟩
      rintro _ M9 ⟨rfl, e9⟩
      subst e9
      simp only [zZ, reduceIte, Nat.reduceLT, Int.reduceToNat, Int.reduceLE, Int.reduceEq, Int.reduceLT, Nat.reduceEqDiff, Nat.reduceAdd, zTy]
      refine CW_seq (CW_region ?_)
      simp only [zZ, reduceIte, Nat.reduceLT, Int.reduceToNat, Int.reduceLE, Int.reduceEq, Int.reduceLT, Nat.reduceEqDiff, Nat.reduceAdd, zTy, build_step1, stepC, stepK, Mem.get_push_new, zput]
      refine CW_ret ?_
      simp only [zZ, reduceIte, Nat.reduceLT, Int.reduceToNat, Int.reduceLE, Int.reduceEq, Int.reduceLT, Nat.reduceEqDiff, Nat.reduceAdd, zTy, mEnd, sAnswer, sAnswer.sRes, aLoad_g, Mem.get_push_new]
      refine fin _ 1 0 [] false 0 0 _ _ ?_
      have hR2 : R = (numQ w1 1 1000).map fun n => (stepK 1 0, n.toNat) := by rw [hR, c0]; rfl
      rw [hR2, numQ_eq w1 1 1000 (by omega) (by omega) (by omega) (by omega)]
      rcases hq : numR w1 1 1000 with ⟨x, ok⟩
      cases ok
      · rfl
      · have := (numR_iff w1 1 1000 x (by omega) (by omega) (by omega) (by omega)).1 hq
        exact ⟨rfl, rfl, by simp only; omega⟩
    · have hcond : (decide (w0 = wTick) && ((n : Int) == 2)) = false := by
        rw [Bool.and_eq_false_iff]
        by_cases c0 : w0 = wTick
        · refine .inr ?_
          rw [beq_eq_false_iff_ne]
          have : r.length ≠ 1 := fun e => hb ⟨c0, e⟩
          simp at hn; omega
        · exact .inl (decide_eq_false c0)
      cases c0 : decide (w0 = wTick) <;> rw [c0] at hcond
      case' true => rw [Bool.true_and] at hcond
      all_goals
        simp only [zZ, reduceIte, Nat.reduceLT, Int.reduceToNat, Int.reduceLE, Int.reduceEq, Int.reduceLT, Nat.reduceEqDiff, Nat.reduceAdd, zTy, h1n, hgp, hget0, e1, c0, hcond]
        refine CW_cond false (by rfl) (fun h => by cases h) (fun _ => CW_skip ?_)
        simp only [zZ, reduceIte, Nat.reduceLT, Int.reduceToNat, Int.reduceLE, Int.reduceEq, Int.reduceLT, Nat.reduceEqDiff, Nat.reduceAdd]
        refine ⟨[0, 2], ?_⟩
        simp only [zZ, reduceIte, Nat.reduceLT, Int.reduceToNat, Int.reduceLE, Int.reduceEq, Int.reduceLT, Nat.reduceEqDiff, Nat.reduceAdd, keepF]
        exact ⟨_, Thin.refl _, rfl, hb⟩
  rintro f M ⟨rfl, rfl, h1⟩
  -- fuse, crash
  refine MW_mid (fun f M => f = [(0, .slice (some ⟨g, 0, none⟩) n n), (2, .pointer (some ⟨m.size, 0, none⟩))] ∧ M = m.push (.cells false s1 Z) ∧ ¬ ((w0 = wFuse ∨ w0 = wCrash) ∧ r.length = 2)) (CW_seq (CW_region ?_)) ?_
  · by_cases hb : (w0 = wFuse ∨ w0 = wCrash) ∧ r.length = 2
    · obtain ⟨c0, hl⟩ := hb
      obtain ⟨w1, w2, rfl⟩ : ∃ w1 w2, r = [w1, w2] := by
        match r, hl with
        | [w1, w2], _ => exact ⟨w1, w2, rfl⟩
      have hn' : n = 3 := hn.symm
      subst hn'
      have l3 : ((3 : Nat) : Int) = 3 := rfl
      have z3 : ((3 : Int) == 3) = true := rfl
      have hget1 : (sC [w0, w1, w2])[1]? = some (.string (str w1)) := rfl
      have hget2 : (sC [w0, w1, w2])[2]? = some (.string (str w2)) := rfl
      have hsv : -1 ≤ sideV w1 ∧ sideV w1 ≤ 1 := by rw [sideV_eq]; split <;> (try split) <;> omega
      have wk : IntKind.i64.wrap (3 - sideV w1) = 3 - sideV w1 := wrs (by omega) (by omega)
      have wk2 : IntKind.i64.wrap (3 - sideV w1 + 2) = 3 - sideV w1 + 2 := wrs (by omega) (by omega)
      obtain ⟨kk, hkk⟩ : ∃ kk : Int, kk = if w0 = wCrash then 3 - sideV w1 + 2 else 3 - sideV w1 := ⟨_, rfl⟩
      have hR2 : R = if w1 = wSender then (numQ w2 (-1) 4611686018427387903).map fun n => (stepK kk n, 1) else if w1 = wReceiver then (numQ w2 (-1) 4611686018427387903).map fun n => (stepK kk n, 1) else none := by
        rw [hR, hkk, sideV_eq]
        have hnc : ¬ wFuse = wCrash := by decide
        by_cases hs1 : w1 = wSender
        · rw [if_pos hs1, if_pos hs1]
          rcases c0 with c0 | c0
          · rw [c0, if_neg hnc]
            show sideOf [w1, w2] 2 3 = _
            rw [sideOf, if_pos hs1]; rfl
          · rw [c0, if_pos rfl]
            show sideOf [w1, w2] 4 5 = _
            rw [sideOf, if_pos hs1]; rfl
        · rw [if_neg hs1, if_neg hs1]
          by_cases hs2 : w1 = wReceiver
          · rw [if_pos hs2, if_pos hs2]
            rcases c0 with c0 | c0
            · rw [c0, if_neg hnc]
              show sideOf [w1, w2] 2 3 = _
              rw [sideOf, if_neg hs1, if_pos hs2]; rfl
            · rw [c0, if_pos rfl]
              show sideOf [w1, w2] 4 5 = _
              rw [sideOf, if_neg hs1, if_pos hs2]; rfl
          · rw [if_neg hs2]
            rcases c0 with c0 | c0
            · rw [c0]
              show sideOf [w1, w2] 2 3 = _
              rw [sideOf, if_neg hs1, if_neg hs2]
            · rw [c0]
              show sideOf [w1, w2] 4 5 = _
              rw [sideOf, if_neg hs1, if_neg hs2]
      have end_ : ∀ (x : Int) (ok : Bool), numR w2 (-1) 4611686018427387903 = (x, ok) → ∀ o2 : Bool, o2 = (ok && decide (0 ≤ sideV w1)) → StepM R ⟨kk, x, [], [], false, 0, 0⟩ 1 o2 := fun x ok hq o2 ho => by
        subst ho
        rw [hR2, numQ_eq w2 (-1) 4611686018427387903 (by omega) (by omega) (by omega) (by omega), hq, sideV_eq]
        by_cases hs1 : w1 = wSender
        · rw [if_pos hs1, if_pos hs1]
          cases ok
          · rfl
          · exact ⟨rfl, rfl, rfl⟩
        · rw [if_neg hs1, if_neg hs1]
          by_cases hs2 : w1 = wReceiver
          · rw [if_pos hs2, if_pos hs2]
            cases ok
            · rfl
            · exact ⟨rfl, rfl, rfl⟩
          · rw [if_neg hs2, if_neg hs2]
            show (ok && decide ((0 : Int) ≤ -1)) = false
            rw [Bool.and_eq_false_iff]
            exact .inr (by decide)
      have d01 : (decide (w0 = wFuse) || decide (w0 = wCrash)) = true := by
        rcases c0 with c0 | c0
        · rw [decide_eq_true c0]; rfl
        · rw [decide_eq_true c0, Bool.or_true]
      cases c1 : decide (w0 = wFuse) <;> cases c2 : decide (w0 = wCrash) <;> rw [c1, c2] at d01 <;> first | (cases d01; done) | skip
      all_goals
        simp only [zZ, reduceIte, Nat.reduceLT, Int.reduceToNat, Int.reduceLE, Int.reduceEq, Int.reduceLT, Nat.reduceEqDiff, Nat.reduceAdd, zTy, l3, z3, hgp, hget0, e2, e3, c1, c2]
        refine CW_cond true (by rfl) (fun _ => CW_seq (CW_region ?_)) (fun h => by cases h)
        simp only [zZ, reduceIte, Nat.reduceLT, Int.reduceToNat, Int.reduceLE, Int.reduceEq, Int.reduceLT, Nat.reduceEqDiff, Nat.reduceAdd, zTy, l3, hgp, hget2]
        refine ⟨by kernel_rfl, _, rnumber_spec w2 (-1) 4611686018427387903 (by omega) (by omega) _, ?_⟩
        rintro _ M9 ⟨rfl, e9⟩
        subst e9
        simp only [zZ, reduceIte, Nat.reduceLT, Int.reduceToNat, Int.reduceLE, Int.reduceEq, Int.reduceLT, Nat.reduceEqDiff, Nat.reduceAdd, zTy]
        refine CW_seq (CW_region ?_)
        simp only [zZ, reduceIte, Nat.reduceLT, Int.reduceToNat, Int.reduceLE, Int.reduceEq, Int.reduceLT, Nat.reduceEqDiff, Nat.reduceAdd, zTy, l3, hgp, hget1]
        refine ⟨by kernel_rfl, _, rside_spec w1 _, ?_⟩
        rintro _ M9 ⟨rfl, e9⟩
        subst e9
        simp only [zZ, reduceIte, Nat.reduceLT, Int.reduceToNat, Int.reduceLE, Int.reduceEq, Int.reduceLT, Nat.reduceEqDiff, Nat.reduceAdd, zTy, wk]
        refine CW_seq (CW_seq (CW_region ?_))
        simp only [zZ, reduceIte, Nat.reduceLT, Int.reduceToNat, Int.reduceLE, Int.reduceEq, Int.reduceLT, Nat.reduceEqDiff, Nat.reduceAdd, zTy, l3, hgp, hget0, e3, c2]
        first
          | refine CW_cond true (by rfl) (fun _ => CW_region ?_) (fun h => by cases h)
            simp only [zZ, reduceIte, Nat.reduceLT, Int.reduceToNat, Int.reduceLE, Int.reduceEq, Int.reduceLT, Nat.reduceEqDiff, Nat.reduceAdd, zTy, wk2]
          | refine CW_cond false (by rfl) (fun h => by cases h) (fun _ => CW_skip ?_)
            simp only [zZ, reduceIte, Nat.reduceLT, Int.reduceToNat, Int.reduceLE, Int.reduceEq, Int.reduceLT, Nat.reduceEqDiff, Nat.reduceAdd]
        rcases hq : numR w2 (-1) 4611686018427387903 with ⟨x, ok⟩
        have hend := end_ x ok hq
        first
          | rw [if_pos (of_decide_eq_true c2)] at hkk
          | rw [if_neg (of_decide_eq_false c2)] at hkk
        subst hkk
        refine CW_seq (CW_region ?_)
        cases ok
        · simp only [zZ, reduceIte, Nat.reduceLT, Int.reduceToNat, Int.reduceLE, Int.reduceEq, Int.reduceLT, Nat.reduceEqDiff, Nat.reduceAdd, zTy, build_step2, stepC, stepK, Mem.get_push_new, zput]
          refine CW_ret ?_
          simp only [zZ, reduceIte, Nat.reduceLT, Int.reduceToNat, Int.reduceLE, Int.reduceEq, Int.reduceLT, Nat.reduceEqDiff, Nat.reduceAdd, zTy, mEnd, sAnswer, sAnswer.sRes, aLoad_g, Mem.get_push_new]
          exact fin _ _ x [] false 0 0 1 _ (hend _ rfl)
        · simp only [zZ, reduceIte, Nat.reduceLT, Int.reduceToNat, Int.reduceLE, Int.reduceEq, Int.reduceLT, Nat.reduceEqDiff, Nat.reduceAdd, zTy, l3, hgp, hget1, build_step2, stepC, stepK]
          refine ⟨by kernel_rfl, _, rside_spec w1 _, ?_⟩
          rintro _ M9 ⟨rfl, e9⟩
          subst e9
          simp only [zZ, reduceIte, Nat.reduceLT, Int.reduceToNat, Int.reduceLE, Int.reduceEq, Int.reduceLT, Nat.reduceEqDiff, Nat.reduceAdd, zTy, Mem.get_push_new, zput]
          refine CW_ret ?_
          simp only [zZ, reduceIte, Nat.reduceLT, Int.reduceToNat, Int.reduceLE, Int.reduceEq, Int.reduceLT, Nat.reduceEqDiff, Nat.reduceAdd, zTy, mEnd, sAnswer, sAnswer.sRes, aLoad_g, Mem.get_push_new]
          exact fin _ _ x [] false 0 0 1 _ (hend _ (by rw [Bool.true_and]))
    · have hcond : ((decide (w0 = wFuse) || decide (w0 = wCrash)) && ((n : Int) == 3)) = false := by
        rw [Bool.and_eq_false_iff]
        by_cases c0 : w0 = wFuse ∨ w0 = wCrash
        · refine .inr ?_
          rw [beq_eq_false_iff_ne]
          have : r.length ≠ 2 := fun e => hb ⟨c0, e⟩
          simp at hn; omega
        · refine .inl ?_
          rw [Bool.or_eq_false_iff]
          exact ⟨decide_eq_false fun e => c0 (.inl e), decide_eq_false fun e => c0 (.inr e)⟩
      cases c0 : decide (w0 = wFuse) <;> cases c1 : decide (w0 = wCrash) <;> rw [c0, c1] at hcond
      case' true.true => replace hcond : ((n : Int) == 3) = false := hcond
      case' true.false => replace hcond : ((n : Int) == 3) = false := hcond
      case' false.true => replace hcond : ((n : Int) == 3) = false := hcond
      all_goals
        simp only [zZ, reduceIte, Nat.reduceLT, Int.reduceToNat, Int.reduceLE, Int.reduceEq, Int.reduceLT, Nat.reduceEqDiff, Nat.reduceAdd, zTy, h1n, hgp, hget0, e2, e3, c0, c1, hcond]
        refine CW_cond false (by rfl) (fun h => by cases h) (fun _ => CW_skip ?_)
        simp only [zZ, reduceIte, Nat.reduceLT, Int.reduceToNat, Int.reduceLE, Int.reduceEq, Int.reduceLT, Nat.reduceEqDiff, Nat.reduceAdd]
        refine ⟨[0, 2], ?_⟩
        simp only [zZ, reduceIte, Nat.reduceLT, Int.reduceToNat, Int.reduceLE, Int.reduceEq, Int.reduceLT, Nat.reduceEqDiff, Nat.reduceAdd, keepF]
        exact ⟨_, Thin.refl _, rfl, hb⟩
  rintro f M ⟨rfl, rfl, h2⟩
  -- inject
  refine MW_mid (fun f M => f = [(0, .slice (some ⟨g, 0, none⟩) n n), (2, .pointer (some ⟨m.size, 0, none⟩))] ∧ M = m.push (.cells false s1 Z) ∧ ¬ (w0 = wInject ∧ r.length = 3)) (CW_seq (CW_region ?_)) ?_
  · by_cases hb : w0 = wInject ∧ r.length = 3
    · obtain ⟨c0, hl⟩ := hb
      obtain ⟨w1, w2, w3, rfl⟩ : ∃ w1 w2 w3, r = [w1, w2, w3] := by
        match r, hl with
        | [w1, w2, w3], _ => exact ⟨w1, w2, w3, rfl⟩
      have hn' : n = 4 := hn.symm
      subst hn'
      have l4 : ((4 : Nat) : Int) = 4 := rfl
      have z4 : ((4 : Int) == 4) = true := rfl
      have t0 : decide (w0 = wInject) = true := decide_eq_true c0
      have hget1 : (sC [w0, w1, w2, w3])[1]? = some (.string (str w1)) := rfl
      have hget2 : (sC [w0, w1, w2, w3])[2]? = some (.string (str w2)) := rfl
      have hget3 : (sC [w0, w1, w2, w3])[3]? = some (.string (str w3)) := rfl
      have hw2 := hs w2 (by simp)
      have hR2 : R = if w1 = wSender ∨ w1 = wReceiver then
          (if (unhexV w2).2 = true then (numQ w3 0 64).map fun n => (⟨6, if w1 = wSender then 1 else 0, [], (unhexV w2).1, false, n, 0⟩, 1) else none) else none := by rw [hR, c0]; rfl
      have end_ : ∀ (y : List UInt8) (x : Int) (is ok : Bool), unhexV w2 = (y, is) → numR w3 0 64 = (x, ok) → ∀ o2 : Bool, o2 = (is && ok && decide (0 ≤ sideV w1)) → StepM R ⟨6, sideV w1, [], y, false, x, 0⟩ 1 o2 := fun y x is ok hu hq o2 ho => by
        subst ho
        rw [hR2, numQ_eq w3 0 64 (by omega) (by omega) (by omega) (by omega), hq, hu, sideV_eq]
        by_cases hs1 : w1 = wSender
        · rw [if_pos hs1, if_pos (.inl hs1), if_pos hs1]
          cases is <;> cases ok <;> first | rfl | exact ⟨rfl, rfl, rfl⟩
        · rw [if_neg hs1, if_neg hs1]
          by_cases hs2 : w1 = wReceiver
          · rw [if_pos hs2, if_pos (.inr hs2)]
            cases is <;> cases ok <;> first | rfl | exact ⟨rfl, rfl, rfl⟩
          · rw [if_neg hs2, if_neg (by rintro (h | h); exact hs1 h; exact hs2 h)]
            show (is && ok && decide ((0 : Int) ≤ -1)) = false
            rw [Bool.and_eq_false_iff]
            exact .inr (by decide)
      simp only [zZ, reduceIte, Nat.reduceLT, Int.reduceToNat, Int.reduceLE, Int.reduceEq, Int.reduceLT, Nat.reduceEqDiff, Nat.reduceAdd, zTy, l4, z4, hgp, hget0, e4, t0]
      refine CW_cond true (by rfl) (fun _ => CW_seq (CW_region ?_)) (fun h => by cases h)
      simp only [zZ, reduceIte, Nat.reduceLT, Int.reduceToNat, Int.reduceLE, Int.reduceEq, Int.reduceLT, Nat.reduceEqDiff, Nat.reduceAdd, zTy, l4, hgp, hget2]
      refine ⟨by kernel_rfl, _, rbytes_spec w2 (by omega) _, ?_⟩
      rintro _ M9 ⟨rfl, e9⟩
      subst e9
      simp only [zZ, reduceIte, Nat.reduceLT, Int.reduceToNat, Int.reduceLE, Int.reduceEq, Int.reduceLT, Nat.reduceEqDiff, Nat.reduceAdd, zTy]
      refine CW_seq (CW_region ?_)
      simp only [zZ, reduceIte, Nat.reduceLT, Int.reduceToNat, Int.reduceLE, Int.reduceEq, Int.reduceLT, Nat.reduceEqDiff, Nat.reduceAdd, zTy, l4, hgp, hget3]
      refine ⟨by kernel_rfl, _, rnumber_spec w3 0 64 (by omega) (by omega) _, ?_⟩
      rintro _ M9 ⟨rfl, e9⟩
      subst e9
      simp only [zZ, reduceIte, Nat.reduceLT, Int.reduceToNat, Int.reduceLE, Int.reduceEq, Int.reduceLT, Nat.reduceEqDiff, Nat.reduceAdd, zTy]
      rcases hu : unhexV w2 with ⟨y, is⟩
      rcases hq : numR w3 0 64 with ⟨x, ok⟩
      have hend := end_ y x is ok hu hq
      refine CW_seq (CW_region ?_)
      simp only [zZ, reduceIte, Nat.reduceLT, Int.reduceToNat, Int.reduceLE, Int.reduceEq, Int.reduceLT, Nat.reduceEqDiff, Nat.reduceAdd, zTy, l4, hgp, hget1]
      refine ⟨by kernel_rfl, _, rside_spec w1 _, ?_⟩
      rintro _ M9 ⟨rfl, e9⟩
      subst e9
      cases is <;> cases ok <;> simp only [zZ, reduceIte, Nat.reduceLT, Int.reduceToNat, Int.reduceLE, Int.reduceEq, Int.reduceLT, Nat.reduceEqDiff, Nat.reduceAdd, zTy, l4, hgp, hget1, build_fateD, build_stepI2, Mem.get_push_new, zput]
      case' true.true =>
        refine ⟨by kernel_rfl, _, rside_spec w1 _, ?_⟩
        rintro _ M9 ⟨rfl, e9⟩
        subst e9
        simp only [zZ, reduceIte, Nat.reduceLT, Int.reduceToNat, Int.reduceLE, Int.reduceEq, Int.reduceLT, Nat.reduceEqDiff, Nat.reduceAdd, zTy, Mem.get_push_new, zput]
        refine CW_ret ?_
        simp only [zZ, reduceIte, Nat.reduceLT, Int.reduceToNat, Int.reduceLE, Int.reduceEq, Int.reduceLT, Nat.reduceEqDiff, Nat.reduceAdd, zTy, mEnd, sAnswer, sAnswer.sRes, aLoad_g, Mem.get_push_new]
        exact fin _ 6 _ y false x 0 1 _ (hend _ (by rfl))
      all_goals
        refine CW_ret ?_
        simp only [zZ, reduceIte, Nat.reduceLT, Int.reduceToNat, Int.reduceLE, Int.reduceEq, Int.reduceLT, Nat.reduceEqDiff, Nat.reduceAdd, zTy, mEnd, sAnswer, sAnswer.sRes, aLoad_g, Mem.get_push_new]
        exact fin _ 6 _ y false x 0 1 _ (hend _ (by rfl))
    · have hcond : (decide (w0 = wInject) && ((n : Int) == 4)) = false := by
        rw [Bool.and_eq_false_iff]
        by_cases c0 : w0 = wInject
        · refine .inr ?_
          rw [beq_eq_false_iff_ne]
          have : r.length ≠ 3 := fun e => hb ⟨c0, e⟩
          simp at hn; omega
        · exact .inl (decide_eq_false c0)
      cases c0 : decide (w0 = wInject) <;> rw [c0] at hcond
      case' true => rw [Bool.true_and] at hcond
      all_goals
        simp only [zZ, reduceIte, Nat.reduceLT, Int.reduceToNat, Int.reduceLE, Int.reduceEq, Int.reduceLT, Nat.reduceEqDiff, Nat.reduceAdd, zTy, h1n, hgp, hget0, e4, c0, hcond]
        refine CW_cond false (by rfl) (fun h => by cases h) (fun _ => CW_skip ?_)
        simp only [zZ, reduceIte, Nat.reduceLT, Int.reduceToNat, Int.reduceLE, Int.reduceEq, Int.reduceLT, Nat.reduceEqDiff, Nat.reduceAdd]
        refine ⟨[0, 2], ?_⟩
        simp only [zZ, reduceIte, Nat.reduceLT, Int.reduceToNat, Int.reduceLE, Int.reduceEq, Int.reduceLT, Nat.reduceEqDiff, Nat.reduceAdd, keepF]
        exact ⟨_, Thin.refl _, rfl, hb⟩
  rintro f M ⟨rfl, rfl, h3⟩
  -- fate, one word
  refine MW_mid (fun f M => f = [(0, .slice (some ⟨g, 0, none⟩) n n), (2, .pointer (some ⟨m.size, 0, none⟩))] ∧ M = m.push (.cells false s1 Z) ∧ ¬ (w0 = wFate ∧ r.length = 1)) (CW_seq (CW_region ?_)) ?_
  · by_cases hb : w0 = wFate ∧ r.length = 1
    · obtain ⟨c0, hl⟩ := hb
      obtain ⟨w1, rfl⟩ : ∃ w1, r = [w1] := by
        match r, hl with
        | [w1], _ => exact ⟨w1, rfl⟩
      have hn' : n = 2 := hn.symm
      subst hn'
      have l2 : ((2 : Nat) : Int) = 2 := rfl
      have z2 : ((2 : Int) == 2) = true := rfl
      have t0 : decide (w0 = wFate) = true := decide_eq_true c0
      have hget1 : (sC [w0, w1])[1]? = some (.string (str w1)) := rfl
      have ed : beqB (str w1) ⟨#[100, 114, 111, 112]⟩ = decide (w1 = wDrop) := beqB_str w1 _
      have hR2 : R = if w1 = wDrop then some (⟨7, 0, [], [], true, 0, 0⟩, 1) else none := by rw [hR, c0]; rfl
      simp only [zZ, reduceIte, Nat.reduceLT, Int.reduceToNat, Int.reduceLE, Int.reduceEq, Int.reduceLT, Nat.reduceEqDiff, Nat.reduceAdd, zTy, l2, z2, hgp, hget0, e5, t0]
      refine CW_cond true (by rfl) (fun _ => CW_seq (CW_draw5 hmix 6 1 [2, 3, 4, 5] (by kernel_rfl) ?_)) (fun h => by cases h)
      simp only [sQB5, idleOK, List.getElem?_cons_succ, List.getElem?_cons_zero, Option.bind_some, zZ, reduceIte, Nat.reduceLT, Int.reduceToNat, Int.reduceLE, Int.reduceEq, Int.reduceLT, Nat.reduceEqDiff, Nat.reduceAdd, zTy, l2, hgp, hget1, ed, build_fate1, build_stepF, stepC, Mem.get_push_new, zput]
      refine ⟨⟨⟨_, rfl, rfl⟩, ⟨_, rfl, rfl⟩, ⟨_, rfl, rfl⟩, ⟨_, rfl, rfl⟩⟩, ?_⟩
      refine CW_ret ?_
      simp only [zZ, reduceIte, Nat.reduceLT, Int.reduceToNat, Int.reduceLE, Int.reduceEq, Int.reduceLT, Nat.reduceEqDiff, Nat.reduceAdd, zTy, mEnd, sAnswer, sAnswer.sRes, aLoad_g, Mem.get_push_new]
      refine fin _ 7 0 [] true 0 0 1 _ ?_
      rw [hR2]
      by_cases hd : w1 = wDrop
      · rw [if_pos hd]; exact ⟨decide_eq_true hd, rfl, rfl⟩
      · rw [if_neg hd]; exact decide_eq_false hd
    · have hcond : (decide (w0 = wFate) && ((n : Int) == 2)) = false := by
        rw [Bool.and_eq_false_iff]
        by_cases c0 : w0 = wFate
        · refine .inr ?_
          rw [beq_eq_false_iff_ne]
          have : r.length ≠ 1 := fun e => hb ⟨c0, e⟩
          simp at hn; omega
        · exact .inl (decide_eq_false c0)
      cases c0 : decide (w0 = wFate) <;> rw [c0] at hcond
      case' true => rw [Bool.true_and] at hcond
      all_goals
        simp only [zZ, reduceIte, Nat.reduceLT, Int.reduceToNat, Int.reduceLE, Int.reduceEq, Int.reduceLT, Nat.reduceEqDiff, Nat.reduceAdd, zTy, h1n, hgp, hget0, e5, c0, hcond]
        refine CW_cond false (by rfl) (fun h => by cases h) (fun _ => CW_skip ?_)
        simp only [zZ, reduceIte, Nat.reduceLT, Int.reduceToNat, Int.reduceLE, Int.reduceEq, Int.reduceLT, Nat.reduceEqDiff, Nat.reduceAdd]
        refine ⟨[0, 2], ?_⟩
        simp only [zZ, reduceIte, Nat.reduceLT, Int.reduceToNat, Int.reduceLE, Int.reduceEq, Int.reduceLT, Nat.reduceEqDiff, Nat.reduceAdd, keepF]
        exact ⟨_, Thin.refl _, rfl, hb⟩
  rintro f M ⟨rfl, rfl, h4⟩
  -- fate, two words
  refine MW_mid (fun f M => f = [(0, .slice (some ⟨g, 0, none⟩) n n), (2, .pointer (some ⟨m.size, 0, none⟩))] ∧ M = m.push (.cells false s1 Z) ∧ ¬ (w0 = wFate ∧ r.length = 2)) (CW_seq (CW_region ?_)) ?_
  · by_cases hb : w0 = wFate ∧ r.length = 2
    · obtain ⟨c0, hl⟩ := hb
      obtain ⟨w1, w2, rfl⟩ : ∃ w1 w2, r = [w1, w2] := by
        match r, hl with
        | [w1, w2], _ => exact ⟨w1, w2, rfl⟩
      have hn' : n = 3 := hn.symm
      subst hn'
      have l3 : ((3 : Nat) : Int) = 3 := rfl
      have z3 : ((3 : Int) == 3) = true := rfl
      have t0 : decide (w0 = wFate) = true := decide_eq_true c0
      have hget1 : (sC [w0, w1, w2])[1]? = some (.string (str w1)) := rfl
      have hget2 : (sC [w0, w1, w2])[2]? = some (.string (str w2)) := rfl
      have hR2 : R = (numQ w1 0 64).bind fun d => (numQ w2 0 3).map fun c => (⟨7, 0, [], [], false, d, c⟩, 1) := by rw [hR, c0]; rfl
      simp only [zZ, reduceIte, Nat.reduceLT, Int.reduceToNat, Int.reduceLE, Int.reduceEq, Int.reduceLT, Nat.reduceEqDiff, Nat.reduceAdd, zTy, l3, z3, hgp, hget0, e5, t0]
      refine CW_cond true (by rfl) (fun _ => CW_seq (CW_region ?_)) (fun h => by cases h)
      simp only [zZ, reduceIte, Nat.reduceLT, Int.reduceToNat, Int.reduceLE, Int.reduceEq, Int.reduceLT, Nat.reduceEqDiff, Nat.reduceAdd, zTy, l3, hgp, hget1]
      refine ⟨by kernel_rfl, _, rnumber_spec w1 0 64 (by omega) (by omega) _, ?_⟩
      rintro _ M9 ⟨rfl, e9⟩
      subst e9
      simp only [zZ, reduceIte, Nat.reduceLT, Int.reduceToNat, Int.reduceLE, Int.reduceEq, Int.reduceLT, Nat.reduceEqDiff, Nat.reduceAdd, zTy]
      refine CW_seq (CW_region ?_)
      simp only [zZ, reduceIte, Nat.reduceLT, Int.reduceToNat, Int.reduceLE, Int.reduceEq, Int.reduceLT, Nat.reduceEqDiff, Nat.reduceAdd, zTy, l3, hgp, hget2]
      refine ⟨by kernel_rfl, _, rnumber_spec w2 0 3 (by omega) (by omega) _, ?_⟩
      rintro _ M9 ⟨rfl, e9⟩
      subst e9
      simp only [zZ, reduceIte, Nat.reduceLT, Int.reduceToNat, Int.reduceLE, Int.reduceEq, Int.reduceLT, Nat.reduceEqDiff, Nat.reduceAdd, zTy]
      rw [numQ_eq w1 0 64 (by omega) (by omega) (by omega) (by omega), numQ_eq w2 0 3 (by omega) (by omega) (by omega) (by omega)] at hR2
      rcases hq : numR w1 0 64 with ⟨x, ok⟩
      rcases hq2 : numR w2 0 3 with ⟨y, ok2⟩
      rw [hq, hq2] at hR2
      refine CW_seq (CW_region ?_)
      cases ok <;> cases ok2 <;> simp only [zZ, reduceIte, Nat.reduceLT, Int.reduceToNat, Int.reduceLE, Int.reduceEq, Int.reduceLT, Nat.reduceEqDiff, Nat.reduceAdd, zTy, build_fateC, build_stepF, stepC, Mem.get_push_new, zput]
      all_goals
        refine CW_ret ?_
        simp only [zZ, reduceIte, Nat.reduceLT, Int.reduceToNat, Int.reduceLE, Int.reduceEq, Int.reduceLT, Nat.reduceEqDiff, Nat.reduceAdd, zTy, mEnd, sAnswer, sAnswer.sRes, aLoad_g, Mem.get_push_new]
        refine fin _ 7 0 [] false x y 1 _ ?_
        rw [hR2]
        first | rfl | exact ⟨rfl, rfl, rfl⟩
    · have hcond : (decide (w0 = wFate) && ((n : Int) == 3)) = false := by
        rw [Bool.and_eq_false_iff]
        by_cases c0 : w0 = wFate
        · refine .inr ?_
          rw [beq_eq_false_iff_ne]
          have : r.length ≠ 2 := fun e => hb ⟨c0, e⟩
          simp at hn; omega
        · exact .inl (decide_eq_false c0)
      cases c0 : decide (w0 = wFate) <;> rw [c0] at hcond
      case' true => rw [Bool.true_and] at hcond
      all_goals
        simp only [zZ, reduceIte, Nat.reduceLT, Int.reduceToNat, Int.reduceLE, Int.reduceEq, Int.reduceLT, Nat.reduceEqDiff, Nat.reduceAdd, zTy, h1n, hgp, hget0, e5, c0, hcond]
        refine CW_cond false (by rfl) (fun h => by cases h) (fun _ => CW_skip ?_)
        simp only [zZ, reduceIte, Nat.reduceLT, Int.reduceToNat, Int.reduceLE, Int.reduceEq, Int.reduceLT, Nat.reduceEqDiff, Nat.reduceAdd]
        refine ⟨[0, 2], ?_⟩
        simp only [zZ, reduceIte, Nat.reduceLT, Int.reduceToNat, Int.reduceLE, Int.reduceEq, Int.reduceLT, Nat.reduceEqDiff, Nat.reduceAdd, keepF]
        exact ⟨_, Thin.refl _, rfl, hb⟩
  rintro f M ⟨rfl, rfl, h5⟩
  refine CW_seq (CW_region ?_)
  simp only [zZ, reduceIte, Nat.reduceLT, Int.reduceToNat, Int.reduceLE, Int.reduceEq, Int.reduceLT, Nat.reduceEqDiff, Nat.reduceAdd, zTy, build_step0, Mem.get_push_new, zput]
  refine CW_ret ?_
  simp only [zZ, reduceIte, Nat.reduceLT, Int.reduceToNat, Int.reduceLE, Int.reduceEq, Int.reduceLT, Nat.reduceEqDiff, Nat.reduceAdd, zTy, mEnd, sAnswer, sAnswer.sRes, aLoad_g, Mem.get_push_new]
  refine fin _ 0 0 [] false 0 0 0 _ ?_
  rw [hR, stepOf_none w0 r h0 h1 h2 h3 h4 h5]
  rfl
end Go.Proofs.YthcleiegefhmdaaGreatDoor
namespace Go.Proofs.YthcleiegefhmdaaGreatDoor
open Go.RowKit Abs
def ps0 : PS := (0, 0, 0, 0, [])
def runLines : List (List UInt8) → Nat → PS → PS × Int × Int
  | [], _, x => (x, 0, 0)
  | s :: r, n, x => match lineOf (decide (n = 0)) x (pieces 32 s []) with
    | none => (ps0, ((n + 1 : Nat) : Int), 2)
    | some y => runLines r (n + 1) y
def parseV (s : List UInt8) : PS × Int × Int :=
  if 262144 < s.length then (ps0, 0, 3) else if Lib.hasSuffix s [10] = false then (ps0, 1 + (s.count 10 : Nat), 2) else runLines (pieces 10 (Lib.trimSuffix s [10]) []) 0 ps0
def ScrAt (M : Mem) (V : Value) (L : List StepL) : Prop := ∃ LV : List (StepL × Value), LV.map Prod.fst = L ∧ (∀ q ∈ LV, FilesAt M q.2 q.1.files) ∧ Rd M 7 V L.length (LV.flatMap stepC)
theorem ScrAt.nil (M : Mem) : ScrAt M (.slice none 0 0) [] := ⟨[], rfl, fun q hq => by simp at hq, none, 0, rfl, rfl, Nat.le_refl _, Nat.zero_le _, fun _ => rfl, fun p hp => by cases hp⟩
def scrAgg (x : PS) (V : Value) : Value := .agg #[.int .i64 x.1, .int .i64 x.2.1, .int .i64 x.2.2.1, .int .i64 x.2.2.2.1, V]
theorem PAt.scr {k p : Nat} {M : Mem} {st : PState} (h : PAt k M p st) (hl : st.steps.length ≤ 4096) : ∃ s V, M.get p = some (.cells false s [.int .i64 st.a, .int .i64 st.b, .int .i64 st.c, .int .i64 st.d, V, .int .i64 st.n]) ∧ ScrAt M V (stepsOf st) ∧ ∃ a n c, V = .slice a n c := by
  obtain ⟨_, s, V, h1, h2, h3⟩ := h
  refine ⟨s, V, h1, ⟨st.steps, rfl, h2, ?_⟩, ?_⟩
  · rw [stepsOf_len]
    rcases h3 with ⟨h4, rfl⟩ | ⟨h4, g, _, _, rfl, h5⟩
    · rw [h4]; exact ⟨none, 0, rfl, rfl, Nat.le_refl _, Nat.zero_le _, fun _ => rfl, fun p hp => by cases hp⟩
    · refine ⟨some ⟨g, 0, none⟩, st.steps.length, rfl, flatMap_len stepC 7 _ fun x _ => stepC_len x, Nat.le_refl _, by unfold maxLen; omega, (fun e => by cases e), fun q hq => ?_⟩
      cases hq
      exact ⟨g, rfl, fun _ => ⟨false, h5⟩⟩
  · rcases h3 with ⟨_, rfl⟩ | ⟨_, g, _, _, rfl, _⟩
    · exact ⟨_, _, _, rfl⟩
    · exact ⟨_, _, _, rfl⟩
theorem PAt.set_low {k p b s : Nat} {M : Mem} {st : PState} {cs : List Value} (h : PAt k M p st) (hb : b < k) (hx : M.get b = some (.cells false s cs)) (o : Option Blk) : PAt k (M.set b o) p st := by
  obtain ⟨h1, s', V, h2, h3, h4⟩ := h
  refine ⟨h1, s', V, by rw [Mem.get_set_ne (by omega)]; exact h2, fun q hq => (Keeps.set (k := 0) (Nat.zero_le _) hx o).files (h3 q hq), ?_⟩
  rcases h4 with h4 | ⟨h5, g, h6, h7, h8, h9⟩
  · exact .inl h4
  · exact .inr ⟨h5, g, h6, h7, h8, by rw [Mem.get_set_ne (by omega)]; exact h9⟩
theorem lineOf_len {f : Bool} {x y : PS} {ws : List (List UInt8)} (h : lineOf f x ws = some y) : y.2.2.2.2.length ≤ 4096 := by
  unfold lineOf at h
  split at h
  · rw [Option.map_eq_some_iff] at h
    obtain ⟨a, _, rfl⟩ := h
    simp
  · rw [Option.map_eq_some_iff] at h
    obtain ⟨L, h1, rfl⟩ := h
    unfold addS at h1
    split at h1
    · cases h1
    · split at h1
      · cases h1
        simp; omega
      · cases h1
theorem build_scr0 : aBuild Tryz.prog 26 [] = some (.agg #[.int .i64 0, .int .i64 0, .int .i64 0, .int .i64 0, .slice none 0 0]) := by kernel_rfl
theorem build_par0 : aBuild Tryz.prog 39 [] = some (.agg #[.int .i64 0, .int .i64 0, .int .i64 0, .int .i64 0, .slice none 0 0, .int .i64 0]) := by kernel_rfl
def ParseR (m : Mem) (r : PS × Int × Int) (u : Value) (M : Mem) : Prop :=
  Keeps m.size m M ∧ m.size ≤ M.size ∧ ∃ V, u = .tuple #[scrAgg r.1 V, .int .i64 r.2.1, .int .i64 r.2.2] ∧ ScrAt M V r.1.2.2.2.2
set_option maxRecDepth 100000 in
set_option maxHeartbeats 4000000 in
theorem parse_spec (hpath : PathOk) (s : List UInt8) (hs : s.length ≤ 1000000) (m : Mem) :
    Abs.Spec Tryz.prog 4 [.string (str s)] m (ParseR m (parseV s)) := by
  refine Abs.Spec.walkM Tryz.func4 (by rfl) _ Tryz.results4 _ Tryz.ntmps4 (by simp) ?_
  intro hc hx k
  obtain ⟨R, hR⟩ : ∃ R, R = parseV s := ⟨_, rfl⟩
  rw [← hR]
  have hal := al_Scr
  generalize aStride Tryz.prog 26 = s1 at hal
  obtain ⟨s2, hbp⟩ : ∃ s2, nBox Tryz.prog 39 (.agg #[.int .i64 0, .int .i64 0, .int .i64 0, .int .i64 0, .slice none 0 0, .int .i64 0]) = some (.cells false s2 [.int .i64 0, .int .i64 0, .int .i64 0, .int .i64 0, .slice none 0 0, .int .i64 0]) := ⟨_, bx_Par _ rfl⟩
  -- what is told where the text is none
  have bad : ∀ (M : Mem) (n e : Int), R = (ps0, n, e) → Keeps m.size m M → m.size ≤ M.size → ∃ m', Thin M m' ∧ ParseR m R (.tuple #[.agg #[.int .i64 0, .int .i64 0, .int .i64 0, .int .i64 0, .slice none 0 0], .int .i64 n, .int .i64 e]) m' := fun M n e h h1 h2 => by
    rw [h]
    exact ⟨M, Thin.refl _, h1, h2, _, rfl, ScrAt.nil M⟩
  obtain ⟨M1, hM1⟩ : ∃ M1, M1 = m.push (.cells false s1 [.int .i64 0, .int .i64 0, .int .i64 0, .int .i64 0, .slice none 0 0]) := ⟨_, rfl⟩
  have hb1 : M1.get m.size = some (.cells false s1 [.int .i64 0, .int .i64 0, .int .i64 0, .int .i64 0, .slice none 0 0]) := by rw [hM1, Mem.get_push_new]
  have hk1 : Keeps m.size m M1 := by rw [hM1]; exact Keeps.push _ _ _
  have hs1 : M1.size = m.size + 1 := by rw [hM1, Mem.size_push]
  refine CW_seq (CW_region ?_)
  simp only [zZ, reduceIte, Nat.reduceLT, Int.reduceToNat, Int.reduceLE, Int.reduceEq, Int.reduceLT, Nat.reduceEqDiff, Nat.reduceAdd, zTy, hal, ← hM1]
  clear hM1
  have hset1 : ∀ o, Keeps m.size m (M1.set m.size o) ∧ m.size ≤ (M1.set m.size o).size := fun o => ⟨hk1.trans (Keeps.set (Nat.le_refl _) hb1 o), by rw [Mem.size_set]; omega⟩
  refine CW_seq (CW_seq (CW_region ?_))
  simp only [zZ, reduceIte, Nat.reduceLT, Int.reduceToNat, Int.reduceLE, Int.reduceEq, Int.reduceLT, Nat.reduceEqDiff, Nat.reduceAdd, zTy, bsize_str]
  refine CW_cond (decide ((262144 : Int) < (s.length : Int))) (by rfl) (fun h => CW_seq (CW_region ?_)) (fun h => CW_skip ?_)
  · simp only [zZ, reduceIte, Nat.reduceLT, Int.reduceToNat, Int.reduceLE, Int.reduceEq, Int.reduceLT, Nat.reduceEqDiff, Nat.reduceAdd, zTy, build_scr0, hb1]
    refine CW_ret ?_
    simp only [zZ, reduceIte, Nat.reduceLT, Int.reduceToNat, Int.reduceLE, Int.reduceEq, Int.reduceLT, Nat.reduceEqDiff, Nat.reduceAdd, zTy, mEnd, sAnswer, sAnswer.sRes, aLoad_g, Mem.get_set_same hb1]
    have := of_decide_eq_true h
    exact bad _ 0 3 (by rw [hR, parseV, if_pos (by omega)]) (hset1 _).1 (hset1 _).2
  have h := of_decide_eq_false h
  have hR1 : R = if Lib.hasSuffix s [10] = false then ((ps0, 1 + ((s.count 10 : Nat) : Int), 2) : PS × Int × Int) else runLines (pieces 10 (Lib.trimSuffix s [10]) []) 0 ps0 := by rw [hR, parseV, if_neg (by omega)]
  simp only [zZ, reduceIte, Nat.reduceLT, Int.reduceToNat, Int.reduceLE, Int.reduceEq, Int.reduceLT, Nat.reduceEqDiff, Nat.reduceAdd]
  obtain ⟨M2, hM2⟩ : ∃ M2, M2 = M1.push (.cells false s2 [.int .i64 0, .int .i64 0, .int .i64 0, .int .i64 0, .slice none 0 0, .int .i64 0]) := ⟨_, rfl⟩
  have hb2 : M2.get m.size = some (.cells false s1 [.int .i64 0, .int .i64 0, .int .i64 0, .int .i64 0, .slice none 0 0]) := by rw [hM2, Mem.get_push_old (get_live hb1)]; exact hb1
  have hq2 : M2.get M1.size = some (.cells false s2 [.int .i64 0, .int .i64 0, .int .i64 0, .int .i64 0, .slice none 0 0, .int .i64 0]) := by rw [hM2, Mem.get_push_new]
  have hk2 : Keeps m.size m M2 := by rw [hM2]; exact hk1.trans (Keeps.push _ _ _)
  have hs2 : M2.size = m.size + 2 := by rw [hM2, Mem.size_push, hs1]
  refine CW_seq (CW_region ?_)
  simp only [zZ, reduceIte, Nat.reduceLT, Int.reduceToNat, Int.reduceLE, Int.reduceEq, Int.reduceLT, Nat.reduceEqDiff, Nat.reduceAdd, zTy, build_par0, hbp, ← hM2]
  clear hM2
  rw [hs1] at hq2
  rw [hs1]
  have hset2 : ∀ M o, Keeps m.size m M → m.size < M.size → M.get m.size = some (.cells false s1 [.int .i64 0, .int .i64 0, .int .i64 0, .int .i64 0, .slice none 0 0]) → Keeps m.size m (M.set m.size o) ∧ m.size ≤ (M.set m.size o).size := fun M o h1 h2 h3 => ⟨h1.trans (Keeps.set (Nat.le_refl _) h3 o), by rw [Mem.size_set]; omega⟩
  refine CW_seq (CW_region ?_)
  simp only [zZ, reduceIte, Nat.reduceLT, Int.reduceToNat, Int.reduceLE, Int.reduceEq, Int.reduceLT, Nat.reduceEqDiff, Nat.reduceAdd, zTy]
  refine ⟨by kernel_rfl, _, suffix_spec (str s) (str [10]) (by rw [Go.Proofs.YthcleiegefhmdaaGreatDoor.str_size]; omega) _, ?_⟩
  rintro _ M9 ⟨rfl, e9⟩
  replace e9 := e9.symm
  subst e9
  simp only [zZ, reduceIte, Nat.reduceLT, Int.reduceToNat, Int.reduceLE, Int.reduceEq, Int.reduceLT, Nat.reduceEqDiff, Nat.reduceAdd, zTy, str_data]
  refine CW_seq (CW_seq (CW_region ?_))
  simp only [zZ, reduceIte, Nat.reduceLT, Int.reduceToNat, Int.reduceLE, Int.reduceEq, Int.reduceLT, Nat.reduceEqDiff, Nat.reduceAdd, zTy]
  refine CW_cond (!Lib.hasSuffix s [10]) (by rfl) (fun h => CW_seq (CW_region ?_)) (fun h => CW_skip ?_)
  · have hsf : Lib.hasSuffix s [10] = false := by simpa using h
    simp only [zZ, reduceIte, Nat.reduceLT, Int.reduceToNat, Int.reduceLE, Int.reduceEq, Int.reduceLT, Nat.reduceEqDiff, Nat.reduceAdd, zTy, build_scr0, hb2]
    refine ⟨by kernel_rfl, _, count_spec (str s) 10 _, ?_⟩
    rintro _ M9 ⟨rfl, e9⟩
    replace e9 := e9.symm
    subst e9
    have hcl := List.count_le_length (l := s) (a := 10)
    have hwr : IntKind.i64.wrap (1 + ((Lib.countByte s 10 : Nat) : Int)) = 1 + ((s.count 10 : Nat) : Int) := by
      unfold Lib.countByte
      exact wr (by omega) (by omega)
    simp only [zZ, reduceIte, Nat.reduceLT, Int.reduceToNat, Int.reduceLE, Int.reduceEq, Int.reduceLT, Nat.reduceEqDiff, Nat.reduceAdd, zTy, str_data, hwr, hb2]
    refine CW_ret ?_
    simp only [zZ, reduceIte, Nat.reduceLT, Int.reduceToNat, Int.reduceLE, Int.reduceEq, Int.reduceLT, Nat.reduceEqDiff, Nat.reduceAdd, zTy, mEnd, sAnswer, sAnswer.sRes, aLoad_g, Mem.get_set_same hb2]
    exact bad _ _ 2 (by rw [hR1, if_pos hsf]) (hset2 _ _ hk2 (by omega) hb2).1 (hset2 _ _ hk2 (by omega) hb2).2
  have hsf : ¬ Lib.hasSuffix s [10] = false := by simpa using h
  have hR2 : R = runLines (pieces 10 (Lib.trimSuffix s [10]) []) 0 ps0 := by rw [hR1, if_neg hsf]
  have htr : (Lib.trimSuffix s [10]).length ≤ s.length := by
    unfold Lib.trimSuffix
    split
    · rw [List.length_take]; omega
    · exact Nat.le_refl _
  simp only [zZ, reduceIte, Nat.reduceLT, Int.reduceToNat, Int.reduceLE, Int.reduceEq, Int.reduceLT, Nat.reduceEqDiff, Nat.reduceAdd]
  have hwl : ∀ w ∈ pieces 10 (Lib.trimSuffix s [10]) [], w.length ≤ 262144 := fun w hw => by have := pieces_mem 10 _ [] w hw; simp at this; omega
  have hwn : (pieces 10 (Lib.trimSuffix s [10]) []).length ≤ 262145 := by rw [pieces_len]; have := List.count_le_length (l := Lib.trimSuffix s [10]) (a := 10); omega
  have hsplit := split_words (Lib.trimSuffix s [10]) 10 (by omega) M2
  generalize pieces 10 (Lib.trimSuffix s [10]) [] = ls at hwl hwn hsplit hR2
  refine CW_seq (CW_seq (CW_region ?_))
  simp only [zZ, reduceIte, Nat.reduceLT, Int.reduceToNat, Int.reduceLE, Int.reduceEq, Int.reduceLT, Nat.reduceEqDiff, Nat.reduceAdd, zTy]
  refine ⟨by kernel_rfl, _, hsplit, ?_⟩
  rintro _ M9 ⟨rfl, hM9⟩
  simp only [zZ, reduceIte, Nat.reduceLT, Int.reduceToNat, Int.reduceLE, Int.reduceEq, Int.reduceLT, Nat.reduceEqDiff, Nat.reduceAdd, zTy]
  obtain ⟨n, hn⟩ : ∃ n, ls.length = n := ⟨_, rfl⟩
  rw [hn] at hwn ⊢
  have hg9 : M9.get M2.size = some (.cells false 1 (sC ls)) := by
    rw [hM9]
    have := ext_get M2 [some (some (.cells false 1 (sC ls)))] 0
    rw [Nat.add_zero] at this
    rw [this]; rfl
  have hs9 : M9.size = M2.size + 1 := by rw [hM9, ext_size]; rfl
  have hold9 : ∀ b x, M2.get b = some x → (fz1 M2.size M9).get b = some x := fun b x hb => by
    rw [fz1_ne (by have := get_live hb; omega), hM9]; exact ext_get_old _ hb
  refine CW_thin (fz1_thin M2.size M9) ?_
  have hg0 := fz1_get hg9
  have hs0 : (fz1 M2.size M9).size = M2.size + 1 := by unfold fz1; rw [hg9]; simp only [Mem.size_set, hs9]
  obtain ⟨M0, hM0⟩ : ∃ M0, M0 = fz1 M2.size M9 := ⟨_, rfl⟩
  rw [← hM0] at hg0 hs0 hold9 ⊢
  clear hM0 hg9 hs9 hM9
  have hp0 : PAt (m.size + 1) M0 (m.size + 1) ⟨0, 0, 0, 0, [], 0⟩ := ⟨Nat.le_refl _, s2, _, hold9 _ _ hq2, fun q hq => by simp at hq, .inl ⟨rfl, rfl⟩⟩
  have hk0 : Keeps m.size m M0 := hk2.trans ⟨fun b x _ h => hold9 b x h, fun b s cs h => hold9 b _ h⟩
  have hb0 := hold9 _ _ hb2
  refine CW_block (MW_loop (fun j f M => ∃ (t : Nat) (st : PState), t + j = n ∧ st.n = t ∧ st.steps.length ≤ 4096 ∧ R = runLines (ls.drop t) t (psOf st) ∧
    f = [(2, .pointer (some ⟨m.size, 0, none⟩)), (5, .pointer (some ⟨m.size + 1, 0, none⟩)), (28, .slice (some ⟨M2.size, 0, none⟩) n n), (29, .int .i64 (n : Nat)), (30, .int .i64 (t : Nat))] ∧
    Keeps (m.size + 1) M0 M ∧ M0.size ≤ M.size ∧ PAt (m.size + 1) M (m.size + 1) st) n ?_ ?_)
  · refine ⟨[2, 5, 28, 29, 30], ?_⟩
    simp only [zZ, reduceIte, Nat.reduceLT, Int.reduceToNat, Int.reduceLE, Int.reduceEq, Int.reduceLT, Nat.reduceEqDiff, Nat.reduceAdd, keepF]
    exact ⟨_, Thin.refl _, 0, ⟨0, 0, 0, 0, [], 0⟩, by omega, rfl, by simp, hR2, rfl, Keeps.refl _ _, Nat.le_refl _, hp0⟩
  · rintro j f M ⟨t, st, htj, hstn, hstl, hun, rfl, hkM, hsM, hpM⟩
    have hgM := hkM.2 _ _ _ hg0
    have hbM := hkM.1 _ _ (by omega) hb0
    have hkmM : Keeps m.size m M := hk0.trans ⟨fun b x hb h => hkM.1 b x (by omega) h, hkM.2⟩
    refine CW_seq (CW_region ?_)
    simp only [zZ, reduceIte, Nat.reduceLT, Int.reduceToNat, Int.reduceLE, Int.reduceEq, Int.reduceLT, Nat.reduceEqDiff, Nat.reduceAdd, zTy]
    refine CW_seq (CW_cond (decide ((t : Int) < (n : Int))) (by rfl) (fun h => CW_skip ?_) (fun h => CW_exit ?_))
    · simp only [zZ, reduceIte, Nat.reduceLT, Int.reduceToNat, Int.reduceLE, Int.reduceEq, Int.reduceLT, Nat.reduceEqDiff, Nat.reduceAdd]
      have htl : t < n := by have := of_decide_eq_true h; omega
      have h0 : (0 : Int) ≤ (t : Int) := by omega
      have h1 : (t : Int) < (n : Int) := by omega
      obtain ⟨w, hw⟩ : ∃ w, ls[t]? = some w := ⟨_, List.getElem?_eq_getElem (by omega)⟩
      have aw := get_str ls t w hw
      have hwl2 := hwl w (List.mem_of_getElem? hw)
      have hxi : IntKind.i64.wrap ((t : Int) + 1) = ((t + 1 : Nat) : Int) := by rw [wr (by omega) (by omega)]; omega
      rw [drop_get hw, runLines] at hun
      have hline := line_spec hpath (m.size + 1) (m.size + 1) st w M hpM (by omega) hstl (by omega) (by omega) (by omega)
      have hz : decide (st.n = 0) = decide (t = 0) := by rw [decide_eq_decide]; omega
      rw [hz] at hline
      refine CW_seq (CW_block (CW_seq (CW_region ?_)))
      simp only [zZ, reduceIte, Nat.reduceLT, Int.reduceToNat, Int.reduceLE, Int.reduceEq, Int.reduceLT, Nat.reduceEqDiff, Nat.reduceAdd, zTy, h0, h1, and_self, hgM, aw]
      refine CW_seq (CW_region ?_)
      simp only [zZ, reduceIte, Nat.reduceLT, Int.reduceToNat, Int.reduceLE, Int.reduceEq, Int.reduceLT, Nat.reduceEqDiff, Nat.reduceAdd, zTy]
      refine ⟨by kernel_rfl, _, hline, ?_⟩
      rintro u M3 ⟨g1, g2, st3, g3, g4, g5⟩
      have hb3 := g1.1 _ _ (by omega) hbM
      have hk3 : Keeps m.size m M3 := hkmM.trans ⟨fun b x hb h => g1.1 b x (by omega) h, g1.2⟩
      cases hl : lineOf (decide (t = 0)) (psOf st) (pieces 32 w []) with
      | none =>
        rw [hl] at g5 hun
        subst g5
        obtain ⟨_, sp, V, hgp, _⟩ := id g3
        simp only [zZ, reduceIte, Nat.reduceLT, Int.reduceToNat, Int.reduceLE, Int.reduceEq, Int.reduceLT, Nat.reduceEqDiff, Nat.reduceAdd, zTy]
        refine CW_cond true (by rfl) (fun _ => CW_seq (CW_draw4 hmix 5 [1, 2, 3, 4] (by kernel_rfl) ?_)) (fun h => by cases h)
        have hst3 : st3.n = ((t + 1 : Nat) : Int) := by omega
        have hgp4 : ∀ o, (M3.set m.size o).get (m.size + 1) = some (.cells false sp [.int .i64 st3.a, .int .i64 st3.b, .int .i64 st3.c, .int .i64 st3.d, V, .int .i64 st3.n]) := fun o => by rw [Mem.get_set_ne (by omega)]; exact hgp
        simp only [sQB, idleOK, List.getElem?_cons_succ, List.getElem?_cons_zero, Option.bind_some, zZ, reduceIte, Nat.reduceLT, Int.reduceToNat, Int.reduceLE, Int.reduceEq, Int.reduceLT, Nat.reduceEqDiff, Nat.reduceAdd, zTy, build_scr0, hgp, hb3, hgp4]
        refine ⟨⟨⟨_, rfl, rfl⟩, ⟨_, rfl, rfl⟩, ⟨_, rfl, rfl⟩, ⟨_, rfl, rfl⟩⟩, ?_⟩
        refine CW_ret ?_
        simp only [zZ, reduceIte, Nat.reduceLT, Int.reduceToNat, Int.reduceLE, Int.reduceEq, Int.reduceLT, Nat.reduceEqDiff, Nat.reduceAdd, zTy, mEnd, sAnswer, sAnswer.sRes, aLoad_g, Mem.get_set_same hb3]
        exact bad _ _ 2 (by rw [hun, hst3]) (hset2 _ _ hk3 (by omega) hb3).1 (hset2 _ _ hk3 (by omega) hb3).2
      | some y =>
        rw [hl] at g5 hun
        obtain ⟨rfl, g6⟩ := g5
        simp only [zZ, reduceIte, Nat.reduceLT, Int.reduceToNat, Int.reduceLE, Int.reduceEq, Int.reduceLT, Nat.reduceEqDiff, Nat.reduceAdd, zTy]
        refine CW_cond false (by rfl) (fun h => by cases h) (fun _ => CW_skip ?_)
        simp only [zZ, reduceIte, Nat.reduceLT, Int.reduceToNat, Int.reduceLE, Int.reduceEq, Int.reduceLT, Nat.reduceEqDiff, Nat.reduceAdd]
        refine CW_region ?_
        simp only [zZ, reduceIte, Nat.reduceLT, Int.reduceToNat, Int.reduceLE, Int.reduceEq, Int.reduceLT, Nat.reduceEqDiff, Nat.reduceAdd, zTy, hxi]
        refine ⟨[2, 5, 28, 29, 30], ?_⟩
        simp only [zZ, reduceIte, Nat.reduceLT, Int.reduceToNat, Int.reduceLE, Int.reduceEq, Int.reduceLT, Nat.reduceEqDiff, Nat.reduceAdd, keepF]
        refine ⟨_, Thin.refl _, j - 1, ⟨t + 1, st3, by omega, by omega, ?_, by rw [hun, g6], rfl, hkM.trans g1, by omega, g3⟩, by omega⟩
        have := lineOf_len hl
        rw [← g6] at this
        rw [← stepsOf_len]; exact this
    · simp only [zZ, reduceIte, Nat.reduceLT, Int.reduceToNat, Int.reduceLE, Int.reduceEq, Int.reduceLT, Nat.reduceEqDiff, Nat.reduceAdd]
      have htl : t = n := by have := of_decide_eq_false h; omega
      have hdn : ls.drop t = [] := List.drop_eq_nil_of_le (by omega)
      rw [hdn, runLines] at hun
      obtain ⟨sp, V, hgp, hscr, va, vn, vc, hV⟩ := hpM.scr hstl
      subst hV
      refine CW_seq (CW_region ?_)
      have hput : putIn 5 M m.size 0 [.int .i64 st.a, .int .i64 st.b, .int .i64 st.c, .int .i64 st.d, .slice va vn vc] (M.get m.size) = some (M.set m.size (some (.cells false s1 [.int .i64 st.a, .int .i64 st.b, .int .i64 st.c, .int .i64 st.d, .slice va vn vc]))) := by rw [hbM]; rfl
      simp only [zZ, reduceIte, Nat.reduceLT, Int.reduceToNat, Int.reduceLE, Int.reduceEq, Int.reduceLT, Nat.reduceEqDiff, Nat.reduceAdd, zTy, hgp, hput]
      refine CW_ret ?_
      simp only [zZ, reduceIte, Nat.reduceLT, Int.reduceToNat, Int.reduceLE, Int.reduceEq, Int.reduceLT, Nat.reduceEqDiff, Nat.reduceAdd, zTy, mEnd, sAnswer, sAnswer.sRes, aLoad_g, Mem.get_set_same hbM]
      obtain ⟨_, V2, hgp2, hscr2, _⟩ := (hpM.set_low (Nat.lt_succ_self _) hbM (some (.cells false s1 [.int .i64 st.a, .int .i64 st.b, .int .i64 st.c, .int .i64 st.d, .slice va vn vc]))).scr hstl
      rw [Mem.get_set_ne (by omega), hgp] at hgp2
      have hV2 : V2 = .slice va vn vc := by injection hgp2 with e; injection e with _ _ e; simp only [List.cons.injEq] at e; exact e.2.2.2.2.1.symm
      rw [hV2] at hscr2
      refine ⟨M.set m.size (some (.cells false s1 [.int .i64 st.a, .int .i64 st.b, .int .i64 st.c, .int .i64 st.d, .slice va vn vc])), Thin.refl _, (hset2 _ _ hkmM (by omega) hbM).1, (hset2 _ _ hkmM (by omega) hbM).2, .slice va vn vc, by rw [hun]; rfl, ?_⟩
      rw [hun]
      exact hscr2
end Go.Proofs.YthcleiegefhmdaaGreatDoor
namespace Go.Proofs.YthcleiegefhmdaaGreatDoor
open Go.RowKit Abs
theorem world_tie (ws : List (List UInt8)) : firstOf ws = if (rworldV ws).2 = true then some (rworldV ws).1 else none := by
  match ws with
  | [] => rfl
  | w0 :: r =>
    by_cases h0 : w0 = wordWorld
    · match r with
      | [w1, w2, w3, w4] =>
        simp only [firstOf, rworldV, if_pos h0, numsV]
        obtain ⟨a1, a2⟩ := num_tie w1 13 1024 (by omega) (by omega) (by omega) (by omega)
        obtain ⟨b1, b2⟩ := num_tie w2 13 1024 (by omega) (by omega) (by omega) (by omega)
        obtain ⟨c1, c2⟩ := num_tie w3 0 1000 (by omega) (by omega) (by omega) (by omega)
        obtain ⟨d1, d2⟩ := num_tie w4 0 64 (by omega) (by omega) (by omega) (by omega)
        rw [← a1, ← b1, ← c1, ← d1]
        by_cases ha : (numP w1 13 1024).2 = true
        · by_cases hb : (numP w2 13 1024).2 = true
          · by_cases hc : (numP w3 0 1000).2 = true
            · by_cases hd : (numP w4 0 64).2 = true
              · simp [ha, hb, hc, hd, a2 ha, b2 hb, c2 hc, d2 hd]
              · simp [ha, hb, hc, hd]
            · simp [ha, hb, hc]
          · simp [ha, hb]
        · simp [ha]
      | [] => rw [firstOf, if_pos h0, numsV_len _ _ (by simp)]; rfl
      | [_] => rw [firstOf, if_pos h0, numsV_len _ _ (by simp)]; rfl
      | [_, _] => rw [firstOf, if_pos h0, numsV_len _ _ (by simp)]; rfl
      | [_, _, _] => rw [firstOf, if_pos h0, numsV_len _ _ (by simp)]; rfl
      | _ :: _ :: _ :: _ :: _ :: _ => rw [firstOf, if_pos h0, numsV_len _ _ (by simp)]; rfl
    · rw [firstOf, if_neg h0]
      match r with
      | [w1, w2, w3, w4] => rw [rworldV, if_neg h0]; rfl
      | [] => rfl
      | [_] => rfl
      | [_, _] => rfl
      | [_, _, _] => rfl
      | _ :: _ :: _ :: _ :: _ :: _ => rfl
theorem stapp {k p : Nat} {M : Mem} {V : Value} {L : List (StepL × Value)} (h : StepsAt M k p V L) (hl : L.length ≤ 5000) (x : StepL × Value) :
    ∃ M', aAppend Tryz.prog (M.push (.cells false 7 (stepC x))) 24 24 V (.slice (some ⟨M.size, 0, none⟩) 1 1) = some (.slice (some ⟨M.size + 1, 0, none⟩) (L.length + 1) (L.length + 1), M') ∧
      M'.size = M.size + 2 ∧ M'.get (M.size + 1) = some (.cells false 7 ((L ++ [x]).flatMap stepC)) ∧ (∀ b y, (b < k ∨ b = p ∨ ∃ s cs, y = .cells true s cs) → M.get b = some y → M'.get b = some y) := by
  have hsrc := src_block (m := M.push (.cells false 7 (stepC x))) (c := 1) (k := 1) (N := 7) (news := stepC x) (ro := false) (s := 7) Tryz.underlying24 (Mem.get_push_new M _) (by rw [stepC_len])
  have hbytes := Step_bytes
  rcases h.2 with ⟨rfl, rfl⟩ | ⟨h0, g, hkg, hgp, rfl, hg⟩
  · have ha := gapp_nil (N := 7) (k := 1) (news := stepC x) Tryz.underlying24 inf_Step Step_zero sz_Step rfl (M.push (.cells false 7 (stepC x))) hsrc (by decide) (by omega) (by decide)
    rw [Mem.size_push] at ha
    refine ⟨_, ha, by simp only [Mem.size_push], ?_, fun b y _ hy => ?_⟩
    · have := Mem.get_push_new (M.push (.cells false 7 (stepC x))) (.cells false 7 (stepC x))
      rw [Mem.size_push] at this
      rw [this]; simp
    · have := get_live hy
      rw [Mem.get_push_old (by rw [Mem.size_push]; omega), Mem.get_push_old this]; exact hy
  · have hgl := get_live hg
    have ha := gapp (N := 7) (k := 1) (n := L.length) (cs := L.flatMap stepC) (news := stepC x) Tryz.underlying24 inf_Step Step_zero sz_Step rfl (M.push (.cells false 7 (stepC x))) hsrc (by decide)
      (by rw [Mem.get_push_old hgl]; exact hg) (flatMap_len stepC 7 L fun y _ => stepC_len y) (by
        rw [show (140737488355328 : Nat) = 140737488355 * 1000 + 328 from rfl]
        exact Nat.le_trans (Nat.mul_le_mul (show L.length + 1 ≤ 140737488355 by omega) hbytes) (by omega)) (by omega)
    rw [Mem.size_push] at ha
    refine ⟨_, ha, by simp only [Mem.size_push, Mem.size_set], ?_, fun b y hb hy => ?_⟩
    · have := Mem.get_push_new ((M.push (.cells false 7 (stepC x))).set g none) (.cells false 7 (L.flatMap stepC ++ stepC x))
      rw [Mem.size_set, Mem.size_push] at this
      rw [this, List.flatMap_append]; simp
    · have := get_live hy
      have hbg : b ≠ g := by
        rcases hb with h' | h' | ⟨s, cs, h'⟩
        · omega
        · rw [h']; exact Ne.symm hgp
        · intro e
          rw [e, h', hg] at hy; cases hy
      rw [Mem.get_push_old (by rw [Mem.size_set, Mem.size_push]; omega), Mem.get_set_ne (Ne.symm hbg), Mem.get_push_old this]; exact hy
def RParseR (m : Mem) (r : PS × Int × Int) (u : Value) (M : Mem) : Prop :=
  Keeps m.size m M ∧ m.size ≤ M.size ∧ ∃ V, u = .tuple #[scrAgg r.1 V, .int .i64 r.2.1, .int .i64 r.2.2] ∧ ScrAt M V r.1.2.2.2.2
theorem build_rscr : aBuild Tryz.prog 31 [] = some (.agg #[.int .i64 0, .int .i64 0, .int .i64 0, .int .i64 0, .slice none 0 0]) := by kernel_rfl
theorem StepsAt.scr {M : Mem} {k p : Nat} {V : Value} {L : List (StepL × Value)} (h : StepsAt M k p V L) (hl : L.length ≤ 5000) : ScrAt M V (L.map Prod.fst) ∧ ∃ a n c, V = .slice a n c := by
  obtain ⟨h2, h3⟩ := h
  refine ⟨⟨L, rfl, h2, ?_⟩, ?_⟩
  · rw [List.length_map]
    rcases h3 with ⟨h4, rfl⟩ | ⟨h4, g, _, _, rfl, h5⟩
    · rw [h4]; exact ⟨none, 0, rfl, rfl, Nat.le_refl _, Nat.zero_le _, fun _ => rfl, fun p hp => by cases hp⟩
    · refine ⟨some ⟨g, 0, none⟩, L.length, rfl, flatMap_len stepC 7 _ fun x _ => stepC_len x, Nat.le_refl _, by unfold maxLen; omega, (fun e => by cases e), fun q hq => ?_⟩
      cases hq
      exact ⟨g, rfl, fun _ => ⟨false, h5⟩⟩
  · rcases h3 with ⟨_, rfl⟩ | ⟨_, g, _, _, rfl, _⟩
    · exact ⟨_, _, _, rfl⟩
    · exact ⟨_, _, _, rfl⟩
theorem StepsAt.same {k p : Nat} {M M' : Mem} {V : Value} {L : List (StepL × Value)} (h : StepsAt M k p V L) (hk : ∀ b x, M.get b = some x → M'.get b = some x) : StepsAt M' k p V L := by
  obtain ⟨h3, h4⟩ := h
  refine ⟨fun q hq => Keeps.files (k := 0) ⟨fun b x _ h => hk b x h, fun b s cs h => hk b _ h⟩ (h3 q hq), ?_⟩
  rcases h4 with h4 | ⟨h5, g, h6, h7, h8, h9⟩
  · exact .inl h4
  · exact .inr ⟨h5, g, h6, h7, h8, hk _ _ h9⟩
theorem StepsAt.set_low {k p b s : Nat} {M : Mem} {V : Value} {L : List (StepL × Value)} {cs : List Value} (h : StepsAt M k p V L) (hb : b < k) (hx : M.get b = some (.cells false s cs)) (o : Option Blk) : StepsAt (M.set b o) k p V L := by
  obtain ⟨h3, h4⟩ := h
  refine ⟨fun q hq => (Keeps.set (k := 0) (Nat.zero_le _) hx o).files (h3 q hq), ?_⟩
  rcases h4 with h4 | ⟨h5, g, h6, h7, h8, h9⟩
  · exact .inl h4
  · exact .inr ⟨h5, g, h6, h7, h8, by rw [Mem.get_set_ne (by omega)]; exact h9⟩
theorem side_times {r : List (List UInt8)} {a b : Int} {x : StepL} {tm : Nat} (h : sideOf r a b = some (x, tm)) : tm ≤ 1000 := by
  match r, h with
  | [c, d], h =>
    simp only [sideOf] at h
    split at h
    · rw [Option.map_eq_some_iff] at h
      obtain ⟨_, _, h⟩ := h
      cases h; omega
    · split at h
      · rw [Option.map_eq_some_iff] at h
        obtain ⟨_, _, h⟩ := h
        cases h; omega
      · cases h
  | [], h => cases h
  | [_], h => cases h
  | _ :: _ :: _ :: _, h => cases h
theorem stepOf_times {ws : List (List UInt8)} {x : StepL} {tm : Nat} (h : stepOf ws = some (x, tm)) : tm ≤ 1000 := by
  cases ws with
  | nil => cases h
  | cons w0 r =>
    rw [stepOf] at h
    have one : ∀ (o : Option StepL), o.map (fun y => (y, 1)) = some (x, tm) → tm ≤ 1000 := fun o ho => by
      rw [Option.map_eq_some_iff] at ho
      obtain ⟨_, _, h⟩ := ho
      cases h; omega
    split at h
    · unfold packOf at h
      split at h
      · cases h
      · split at h
        · cases h; omega
        · cases h
    · split at h
      · match r, h with
        | [a], h =>
          simp only [tickOf, Option.map_eq_some_iff] at h
          obtain ⟨n, h1, h2⟩ := h
          cases h2
          unfold numQ at h1
          split at h1
          · rename_i h3
            cases h1
            have := (numP_iff a 1 1000 (numP a 1 1000).1 (by omega) (by omega)).1 (by rw [← h3])
            omega
          · cases h1
        | [], h => cases h
        | _ :: _ :: _, h => cases h
      · split at h
        · exact side_times h
        · split at h
          · exact side_times h
          · split at h
            · match r, h with
              | [a, b, c], h =>
                simp only [injectOf] at h
                split at h
                · split at h
                  · rw [Option.map_eq_some_iff] at h
                    obtain ⟨_, _, h⟩ := h
                    cases h; omega
                  · cases h
                · cases h
              | [], h => cases h
              | [_], h => cases h
              | [_, _], h => cases h
              | _ :: _ :: _ :: _ :: _, h => cases h
            · split at h
              · match r, h with
                | [a], h =>
                  simp only [fateOf] at h
                  split at h
                  · cases h; omega
                  · cases h
                | [a, b], h =>
                  simp only [fateOf, Option.bind_eq_some_iff, Option.map_eq_some_iff] at h
                  obtain ⟨_, _, _, _, h⟩ := h
                  cases h; omega
                | [], h => cases h
                | _ :: _ :: _ :: _, h => cases h
              · cases h
set_option maxRecDepth 100000 in
set_option maxHeartbeats 4000000 in
theorem rparse_spec (s : List UInt8) (hs : s.length ≤ 800000) (m : Mem) :
    Abs.Spec Tryz.prog 5 [.string (str s)] m (RParseR m (parseV s)) := by
  refine Abs.Spec.walkM Tryz.func5 (by rfl) _ Tryz.results5 _ Tryz.ntmps5 (by simp) ?_
  intro hc hx k
  obtain ⟨R, hR⟩ : ∃ R, R = parseV s := ⟨_, rfl⟩
  rw [← hR]
  have hal := al_RScr
  generalize aStride Tryz.prog 31 = s1 at hal
  have halS := al_Step
  generalize aStride Tryz.prog 52 = s2 at halS
  obtain ⟨Z, hZ⟩ : ∃ Z : List Value, Z = [.int .i64 0, .int .i64 0, .int .i64 0, .int .i64 0, .slice none 0 0] := ⟨_, rfl⟩
  have bad : ∀ (M : Mem) (n e : Int), R = (ps0, n, e) → Keeps m.size m M → m.size ≤ M.size → ∃ m', Thin M m' ∧ RParseR m R (.tuple #[.agg #[.int .i64 0, .int .i64 0, .int .i64 0, .int .i64 0, .slice none 0 0], .int .i64 n, .int .i64 e]) m' := fun M n e h h1 h2 => by
    rw [h]
    exact ⟨M, Thin.refl _, h1, h2, _, rfl, ScrAt.nil M⟩
  obtain ⟨M1, hM1⟩ : ∃ M1, M1 = (m.push (.cells false s1 Z)).push (.cells false s1 Z) := ⟨_, rfl⟩
  have hb1 : M1.get m.size = some (.cells false s1 Z) := by rw [hM1, Mem.get_push_old (by rw [Mem.size_push]; omega), Mem.get_push_new]
  have hc1 : M1.get (m.size + 1) = some (.cells false s1 Z) := by
    have := Mem.get_push_new (m.push (.cells false s1 Z)) (.cells false s1 Z)
    rw [Mem.size_push] at this
    rw [hM1]; exact this
  have hk1 : Keeps m.size m M1 := by rw [hM1]; exact (Keeps.push _ _ _).trans (Keeps.push _ _ _)
  have hs1 : M1.size = m.size + 2 := by rw [hM1, Mem.size_push, Mem.size_push]
  have pset : ∀ (B C D : Blk), ((m.push B).push C).set (m.size + 1) (some D) = (m.push B).push D := fun B C D => by
    have := push_set (m.push B) C D
    rw [Mem.size_push] at this
    exact this
  have pget : ∀ (B C : Blk), ((m.push B).push C).get (m.size + 1) = some C := fun B C => by
    have := Mem.get_push_new (m.push B) C
    rw [Mem.size_push] at this
    exact this
  refine CW_seq (CW_region ?_)
  simp only [zZ, reduceIte, Nat.reduceLT, Int.reduceToNat, Int.reduceLE, Int.reduceEq, Int.reduceLT, Nat.reduceEqDiff, Nat.reduceAdd, zTy, hal]
  refine CW_seq (CW_region ?_)
  simp only [zZ, reduceIte, Nat.reduceLT, Int.reduceToNat, Int.reduceLE, Int.reduceEq, Int.reduceLT, Nat.reduceEqDiff, Nat.reduceAdd, zTy, hal, build_rscr, Mem.size_push, pget, pset]
  rw [← hZ, ← hM1]
  clear hM1 pset pget
  -- storing the result: none
  have zput : ∀ M : Mem, M.get m.size = some (.cells false s1 Z) → putIn 5 M m.size 0 [.int .i64 0, .int .i64 0, .int .i64 0, .int .i64 0, .slice none 0 0] (M.get m.size) = some (M.set m.size (some (.cells false s1 [.int .i64 0, .int .i64 0, .int .i64 0, .int .i64 0, .slice none 0 0]))) := fun M h => by rw [h, hZ]; rfl
  have zrow : rowIn 5 0 (some (.cells false s1 Z)) = some (.agg #[.int .i64 0, .int .i64 0, .int .i64 0, .int .i64 0, .slice none 0 0]) := by rw [hZ]; rfl
  have hset : ∀ M o, Keeps m.size m M → m.size < M.size → M.get m.size = some (.cells false s1 Z) → Keeps m.size m (M.set m.size o) ∧ m.size ≤ (M.set m.size o).size := fun M o h1 h2 h3 => ⟨h1.trans (Keeps.set (Nat.le_refl _) h3 o), by rw [Mem.size_set]; omega⟩
  refine CW_seq (CW_seq (CW_region ?_))
  simp only [zZ, reduceIte, Nat.reduceLT, Int.reduceToNat, Int.reduceLE, Int.reduceEq, Int.reduceLT, Nat.reduceEqDiff, Nat.reduceAdd, zTy, bsize_str]
  refine CW_cond (decide ((262144 : Int) < (s.length : Int))) (by rfl) (fun h => CW_seq (CW_region ?_)) (fun h => CW_skip ?_)
  · have zp := zput M1 hb1
    simp only [zZ, reduceIte, Nat.reduceLT, Int.reduceToNat, Int.reduceLE, Int.reduceEq, Int.reduceLT, Nat.reduceEqDiff, Nat.reduceAdd, zTy, hc1, zrow, zp]
    refine CW_ret ?_
    simp only [zZ, reduceIte, Nat.reduceLT, Int.reduceToNat, Int.reduceLE, Int.reduceEq, Int.reduceLT, Nat.reduceEqDiff, Nat.reduceAdd, zTy, mEnd, sAnswer, sAnswer.sRes, aLoad_g, Mem.get_set_same hb1]
    have := of_decide_eq_true h
    exact bad _ 0 3 (by rw [hR, parseV, if_pos (by omega)]) (hset _ _ hk1 (by omega) hb1).1 (hset _ _ hk1 (by omega) hb1).2
  have h := of_decide_eq_false h
  have hR1 : R = if Lib.hasSuffix s [10] = false then ((ps0, 1 + ((s.count 10 : Nat) : Int), 2) : PS × Int × Int) else runLines (pieces 10 (Lib.trimSuffix s [10]) []) 0 ps0 := by rw [hR, parseV, if_neg (by omega)]
  simp only [zZ, reduceIte, Nat.reduceLT, Int.reduceToNat, Int.reduceLE, Int.reduceEq, Int.reduceLT, Nat.reduceEqDiff, Nat.reduceAdd]
  have hwl : ∀ w ∈ pieces 10 s [], w.length ≤ 262144 := fun w hw => by have := pieces_mem 10 s [] w hw; simp at this; omega
  have hwn : (pieces 10 s []).length ≤ 262145 := by rw [pieces_len]; have := List.count_le_length (l := s) (a := 10); omega
  have hpl := pieces_len 10 s []
  have hsplit := rsplit_spec s 10 (by omega) M1
  obtain ⟨l, hl⟩ : ∃ l, l = pieces 10 s [] := ⟨_, rfl⟩
  rw [← hl] at hwl hwn hpl hsplit
  refine CW_seq (CW_region ?_)
  simp only [zZ, reduceIte, Nat.reduceLT, Int.reduceToNat, Int.reduceLE, Int.reduceEq, Int.reduceLT, Nat.reduceEqDiff, Nat.reduceAdd, zTy]
  refine ⟨by kernel_rfl, _, hsplit, ?_⟩
  rintro _ M9 ⟨rfl, hM9⟩
  simp only [zZ, reduceIte, Nat.reduceLT, Int.reduceToNat, Int.reduceLE, Int.reduceEq, Int.reduceLT, Nat.reduceEqDiff, Nat.reduceAdd, zTy]
  obtain ⟨n, hn⟩ : ∃ n, l.length = n := ⟨_, rfl⟩
  rw [hn] at hwn hpl ⊢
  have hg9 : M9.get M1.size = some (.cells false 1 (sC l)) := by
    rw [hM9]
    have := ext_get M1 [some (some (.cells false 1 (sC l)))] 0
    rw [Nat.add_zero] at this
    rw [this]; rfl
  have hs9 : M9.size = M1.size + 1 := by rw [hM9, ext_size]; rfl
  have hold9 : ∀ b x, M1.get b = some x → (fz1 M1.size M9).get b = some x := fun b x hb => by
    rw [fz1_ne (by have := get_live hb; omega), hM9]; exact ext_get_old _ hb
  refine CW_thin (fz1_thin M1.size M9) ?_
  have hg2 := fz1_get hg9
  have hs2 : (fz1 M1.size M9).size = m.size + 3 := by unfold fz1; rw [hg9]; simp only [Mem.size_set, hs9, hs1]
  obtain ⟨M2, hM2⟩ : ∃ M2, M2 = fz1 M1.size M9 := ⟨_, rfl⟩
  rw [← hM2] at hg2 hs2 hold9 ⊢
  clear hM2 hg9 hs9 hM9
  rw [hs1] at hg2 ⊢
  have hb2 := hold9 _ _ hb1
  have hc2 := hold9 _ _ hc1
  have hk2 : Keeps m.size m M2 := hk1.trans ⟨fun b x _ h => hold9 b x h, fun b s cs h => hold9 b _ h⟩
  obtain ⟨q, y, hqy⟩ : ∃ q y, l = q ++ [y] := by
    rcases List.eq_nil_or_concat l with e | ⟨q, y, e⟩
    · rw [e] at hn; simp at hn; omega
    · exact ⟨q, y, by rw [e, List.concat_eq_append]⟩
  have hql : q.length + 1 = n := by rw [← hn, hqy]; simp
  have hlast : (sC l)[q.length]? = some (.string (str y)) := get_str l q.length y (by rw [hqy]; simp)
  have wn : IntKind.i64.wrap ((n : Int) - 1) = ((q.length : Nat) : Int) := by rw [wrs (by omega) (by omega)]; omega
  have ey : beqB (str y) ⟨#[]⟩ = decide (y = []) := beqB_str y []
  have hi0 : (0 : Int) ≤ ((q.length : Nat) : Int) := by omega
  have hi1 : ((q.length : Nat) : Int) < (n : Int) := by omega
  -- is it a text of lines?
  have htie : (y = [] ∧ 2 ≤ n) ↔ Lib.hasSuffix s [10] = true := by
    constructor
    · rintro ⟨rfl, h2⟩
      cases hh : Lib.hasSuffix s [10]
      · rcases pieces_no 10 s hh with rfl | ⟨q', y', hne, he⟩
        · rw [hpl] at h2; simp at h2
        · rw [← hl, hqy] at he
          have := congrArg List.getLast? he
          simp at this
          exact absurd this hne
      · rfl
    · intro hh
      obtain ⟨r, rfl⟩ := (suffix_iff s 10).1 hh
      rw [pieces_last] at hl
      rw [hqy] at hl
      have h3 := congrArg List.getLast? hl
      simp at h3
      refine ⟨h3, ?_⟩
      rw [hpl]; simp
  refine CW_seq (CW_seq (CW_region ?_))
  by_cases hbad : ¬ (y = [] ∧ 2 ≤ n)
  · have hsf : Lib.hasSuffix s [10] = false := by
      cases hh : Lib.hasSuffix s [10]
      · rfl
      · exact absurd (htie.2 hh) hbad
    have hcond : (!decide (y = []) || decide ((n : Int) < 2)) = true := by
      by_cases hy : y = []
      · rw [decide_eq_true hy, Bool.not_true, Bool.false_or]
        exact decide_eq_true (by by_cases h2 : 2 ≤ n; exact absurd ⟨hy, h2⟩ hbad; omega)
      · rw [decide_eq_false hy]; rfl
    have zp := zput M2 hb2
    cases c0 : decide (y = []) <;> rw [c0] at hcond
    case' true => replace hcond : decide ((n : Int) < 2) = true := hcond
    all_goals
      simp only [zZ, reduceIte, Nat.reduceLT, Int.reduceToNat, Int.reduceLE, Int.reduceEq, Int.reduceLT, Nat.reduceEqDiff, Nat.reduceAdd, zTy, wn, hi0, hi1, and_self, hg2, hlast, ey, c0, hcond]
      refine CW_cond true (by rfl) (fun _ => CW_seq (CW_region ?_)) (fun h => by cases h)
      simp only [zZ, reduceIte, Nat.reduceLT, Int.reduceToNat, Int.reduceLE, Int.reduceEq, Int.reduceLT, Nat.reduceEqDiff, Nat.reduceAdd, zTy, hc2, zrow, zp]
      refine CW_ret ?_
      simp only [zZ, reduceIte, Nat.reduceLT, Int.reduceToNat, Int.reduceLE, Int.reduceEq, Int.reduceLT, Nat.reduceEqDiff, Nat.reduceAdd, zTy, mEnd, sAnswer, sAnswer.sRes, aLoad_g, Mem.get_set_same hb2]
      exact bad _ _ 2 (by rw [hR1, if_pos hsf, hpl]; congr 2; omega) (hset _ _ hk2 (by omega) hb2).1 (hset _ _ hk2 (by omega) hb2).2
  have hgood : y = [] ∧ 2 ≤ n := Decidable.not_not.1 hbad
  have hsf := htie.1 hgood
  obtain ⟨tx, htx⟩ := (suffix_iff s 10).1 hsf
  have hq : q = pieces 10 (Lib.trimSuffix s [10]) [] := by
    rw [htx, trim_eq]
    rw [htx, pieces_last, hqy] at hl
    exact (List.append_inj' hl rfl).1
  have hR2 : R = runLines q 0 ps0 := by rw [hR1, if_neg (by rw [hsf]; decide), ← hq]
  have c0 : decide (y = []) = true := decide_eq_true hgood.1
  have c1 : decide ((n : Int) < 2) = false := decide_eq_false (by omega)
  simp only [zZ, reduceIte, Nat.reduceLT, Int.reduceToNat, Int.reduceLE, Int.reduceEq, Int.reduceLT, Nat.reduceEqDiff, Nat.reduceAdd, zTy, wn, hi0, hi1, and_self, hg2, hlast, ey, c0, c1]
  refine CW_cond false (by rfl) (fun h => by cases h) (fun _ => CW_skip ?_)
  simp only [zZ, reduceIte, Nat.reduceLT, Int.reduceToNat, Int.reduceLE, Int.reduceEq, Int.reduceLT, Nat.reduceEqDiff, Nat.reduceAdd]
  clear hbad htie
  refine CW_seq (CW_region ?_)
  simp only [zZ, reduceIte, Nat.reduceLT, Int.reduceToNat, Int.reduceLE, Int.reduceEq, Int.reduceLT, Nat.reduceEqDiff, Nat.reduceAdd, zTy, hc2, zrow, hal, Mem.get_push_new, push_set]
  obtain ⟨M3, hM3⟩ : ∃ M3, M3 = M2.push (.cells false s1 [.int .i64 0, .int .i64 0, .int .i64 0, .int .i64 0, .slice none 0 0]) := ⟨_, rfl⟩
  have hold3 : ∀ b x, M2.get b = some x → M3.get b = some x := fun b x hb => by rw [hM3, Mem.get_push_old (get_live hb)]; exact hb
  have h73 : M3.get (m.size + 3) = some (.cells false s1 [.int .i64 0, .int .i64 0, .int .i64 0, .int .i64 0, .slice none 0 0]) := by
    have := Mem.get_push_new M2 (.cells false s1 [.int .i64 0, .int .i64 0, .int .i64 0, .int .i64 0, .slice none 0 0])
    rw [hs2] at this
    rw [hM3]; exact this
  have hs3 : M3.size = m.size + 4 := by rw [hM3, Mem.size_push, hs2]
  rw [← hM3, hs2]
  clear hM3
  have hg3 := hold3 _ _ hg2
  have hb3 := hold3 _ _ hb2
  have hc3 := hold3 _ _ hc2
  have hk3 : Keeps m.size m M3 := hk2.trans ⟨fun b x _ h => hold3 b x h, fun b s cs h => hold3 b _ h⟩
  have grow : ∀ M, (∀ b x, b < m.size + 3 → M3.get b = some x → M.get b = some x) → Keeps m.size m M ∧ M.get m.size = some (.cells false s1 Z) ∧ M.get (m.size + 1) = some (.cells false s1 Z) ∧ M.get (m.size + 2) = some (.cells true 1 (sC l)) := fun M h =>
    ⟨⟨fun b x hb hx => h b x (by omega) (hk3.1 b x hb hx), fun b s cs hx => h b _ (by have := get_live hx; omega) (hk3.1 b _ (get_live hx) hx)⟩, h _ _ (by omega) hb3, h _ _ (by omega) hc3, h _ _ (by omega) hg3⟩
  refine CW_seq (CW_seq (CW_region ?_))
  simp only [zZ, reduceIte, Nat.reduceLT, Int.reduceToNat, Int.reduceLE, Int.reduceEq, Int.reduceLT, Nat.reduceEqDiff, Nat.reduceAdd, zTy]
  refine CW_block (MW_loop (fun j f M => ∃ (t : Nat) (a b c d : Int) (LV : List (StepL × Value)) (V : Value), t + j = q.length ∧ LV.length ≤ 4096 ∧ R = runLines (q.drop t) t (a, b, c, d, LV.map Prod.fst) ∧
    f = [(2, .pointer (some ⟨m.size, 0, none⟩)), (5, .pointer (some ⟨m.size + 1, 0, none⟩)), (6, .slice (some ⟨m.size + 2, 0, none⟩) n n), (7, .pointer (some ⟨m.size + 3, 0, none⟩)), (8, .int .i64 (t : Nat))] ∧
    (∀ b x, b < m.size + 3 → M3.get b = some x → M.get b = some x) ∧ m.size + 3 < M.size ∧ M.get (m.size + 3) = some (.cells false s1 [.int .i64 a, .int .i64 b, .int .i64 c, .int .i64 d, V]) ∧ StepsAt M (m.size + 4) (m.size + 3) V LV) q.length ?_ ?_)
  · refine ⟨[2, 5, 6, 7, 8], ?_⟩
    simp only [zZ, reduceIte, Nat.reduceLT, Int.reduceToNat, Int.reduceLE, Int.reduceEq, Int.reduceLT, Nat.reduceEqDiff, Nat.reduceAdd, keepF]
    exact ⟨_, Thin.refl _, 0, 0, 0, 0, 0, [], _, by omega, by simp, hR2, rfl, fun b x _ h => h, by omega, h73, fun x hx => by simp at hx, .inl ⟨rfl, rfl⟩⟩
  · rintro j f M ⟨t, a, b, c, d, LV, V, htj, hLV, hun, rfl, hold, hms, h7, hst⟩
    obtain ⟨hkM, hbM, hcM, hgM⟩ := grow M hold
    have hti : IntKind.i64.wrap ((t : Int) + 1) = ((t + 1 : Nat) : Int) := by rw [wr (by omega) (by omega)]; omega
    refine CW_seq (CW_seq (CW_region ?_))
    simp only [zZ, reduceIte, Nat.reduceLT, Int.reduceToNat, Int.reduceLE, Int.reduceEq, Int.reduceLT, Nat.reduceEqDiff, Nat.reduceAdd, zTy, hti]
    refine CW_cond (decide (((t + 1 : Nat) : Int) < (n : Int))) (by rfl) (fun h => CW_skip ?_) (fun h => CW_exit ?_)
    · have htl : t < q.length := by have := of_decide_eq_true h; omega
      have h0 : (0 : Int) ≤ (t : Int) := by omega
      have h1 : (t : Int) < (n : Int) := by omega
      obtain ⟨w, hw⟩ : ∃ w, q[t]? = some w := ⟨_, List.getElem?_eq_getElem htl⟩
      have aw : (sC l)[t]? = some (.string (str w)) := get_str l t w (by rw [hqy, List.getElem?_append_left htl]; exact hw)
      have hwl2 : w.length ≤ 262144 := hwl w (by rw [hqy]; exact List.mem_append_left _ (List.mem_of_getElem? hw))
      rw [drop_get hw, runLines] at hun
      have hws := rsplit_spec w 32 (by omega) M
      have hwl3 : ∀ x ∈ pieces 32 w [], x.length ≤ 262144 := fun x hx => by have := pieces_mem 32 w [] x hx; simp at this; omega
      have hwn3 : (pieces 32 w []).length ≤ 262145 := by rw [pieces_len]; have := List.count_le_length (l := w) (a := 32); omega
      have hwn1 := pieces_ne 32 w []
      generalize pieces 32 w [] = ws at hws hwl3 hwn3 hwn1 hun
      obtain ⟨nw, hnw⟩ : ∃ nw, ws.length = nw := ⟨_, rfl⟩
      rw [hnw] at hws hwn3 hwn1
      simp only [zZ, reduceIte, Nat.reduceLT, Int.reduceToNat, Int.reduceLE, Int.reduceEq, Int.reduceLT, Nat.reduceEqDiff, Nat.reduceAdd]
      -- what is told where a line is none
      have badline : ∀ (M' : Mem) (nn : Int), R = (ps0, nn, 2) → (∀ b x, b < m.size + 3 → M3.get b = some x → M'.get b = some x) → m.size < M'.size → ∃ m', Thin (M'.set m.size (some (.cells false s1 [.int .i64 0, .int .i64 0, .int .i64 0, .int .i64 0, .slice none 0 0]))) m' ∧ RParseR m R (.tuple #[.agg #[.int .i64 0, .int .i64 0, .int .i64 0, .int .i64 0, .slice none 0 0], .int .i64 nn, .int .i64 2]) m' := fun M' nn hR hM' hs' => by
        obtain ⟨g1, g2, _⟩ := grow M' hM'
        exact bad _ nn 2 hR (hset _ _ g1 hs' g2).1 (hset _ _ g1 hs' g2).2
      refine MW_mid (fun f M' => ∃ (a b c d : Int) (LV : List (StepL × Value)) (V : Value), LV.length ≤ 4096 ∧ R = runLines (q.drop (t + 1)) (t + 1) (a, b, c, d, LV.map Prod.fst) ∧
        f = [(2, .pointer (some ⟨m.size, 0, none⟩)), (5, .pointer (some ⟨m.size + 1, 0, none⟩)), (6, .slice (some ⟨m.size + 2, 0, none⟩) n n), (7, .pointer (some ⟨m.size + 3, 0, none⟩)), (8, .int .i64 (t : Nat))] ∧
        (∀ b x, b < m.size + 3 → M3.get b = some x → M'.get b = some x) ∧ m.size + 3 < M'.size ∧ M'.get (m.size + 3) = some (.cells false s1 [.int .i64 a, .int .i64 b, .int .i64 c, .int .i64 d, V]) ∧ StepsAt M' (m.size + 4) (m.size + 3) V LV) (CW_block (CW_seq (CW_region ?_))) ?_
      · simp only [zZ, reduceIte, Nat.reduceLT, Int.reduceToNat, Int.reduceLE, Int.reduceEq, Int.reduceLT, Nat.reduceEqDiff, Nat.reduceAdd, zTy, h0, h1, and_self, hgM, aw]
        refine ⟨by kernel_rfl, _, hws, ?_⟩
        rintro _ M4 ⟨rfl, hM4⟩
        have hg4 : M4.get M.size = some (.cells false 1 (sC ws)) := by
          rw [hM4]
          have := ext_get M [some (some (.cells false 1 (sC ws)))] 0
          rw [Nat.add_zero] at this
          rw [this]; rfl
        have hs4 : M4.size = M.size + 1 := by rw [hM4, ext_size]; rfl
        have hold4 : ∀ b x, M.get b = some x → M4.get b = some x := fun b x hb => by rw [hM4]; exact ext_get_old _ hb
        clear hM4
        simp only [zZ, reduceIte, Nat.reduceLT, Int.reduceToNat, Int.reduceLE, Int.reduceEq, Int.reduceLT, Nat.reduceEqDiff, Nat.reduceAdd, zTy]
        have hold34 : ∀ b x, b < m.size + 3 → M3.get b = some x → M4.get b = some x := fun b x hb hx => hold4 b x (hold b x hb hx)
        obtain ⟨_, hb4, hc4, _⟩ := grow M4 hold34
        have h74 := hold4 _ _ h7
        refine CW_seq (CW_seq (CW_region ?_))
        simp only [zZ, reduceIte, Nat.reduceLT, Int.reduceToNat, Int.reduceLE, Int.reduceEq, Int.reduceLT, Nat.reduceEqDiff, Nat.reduceAdd, zTy]
        refine CW_cond ((t : Int) == 0) (by rfl) (fun hz => CW_seq (CW_region ?_)) (fun hz => CW_skip ?_)
        · have ht0 : t = 0 := by rw [beq_iff_eq] at hz; omega
          rw [ht0, show decide (0 = 0) = true from rfl, lineOf, if_pos rfl, world_tie] at hun
          simp only [zZ, reduceIte, Nat.reduceLT, Int.reduceToNat, Int.reduceLE, Int.reduceEq, Int.reduceLT, Nat.reduceEqDiff, Nat.reduceAdd, zTy]
          refine ⟨by kernel_rfl, _, rworld_spec ws nw M.size false hnw M4 hg4, ?_⟩
          rintro _ M9 ⟨rfl, e9⟩
          replace e9 := e9.symm
          subst e9
          rcases hrw : rworldV ws with ⟨⟨a', b', c', d'⟩, ok⟩
          rw [hrw] at hun
          simp only [scrV, zZ, reduceIte, Nat.reduceLT, Int.reduceToNat, Int.reduceLE, Int.reduceEq, Int.reduceLT, Nat.reduceEqDiff, Nat.reduceAdd, zTy, hal, Mem.get_push_new, push_set]
          refine CW_seq (CW_seq (CW_region ?_))
          simp only [zZ, reduceIte, Nat.reduceLT, Int.reduceToNat, Int.reduceLE, Int.reduceEq, Int.reduceLT, Nat.reduceEqDiff, Nat.reduceAdd, zTy]
          have holdp : ∀ (B : Blk) b x, b < m.size + 3 → M3.get b = some x → (M4.push B).get b = some x := fun B b x hb hx => by rw [Mem.get_push_old (by omega)]; exact hold34 b x hb hx
          have hcp : ∀ B : Blk, (M4.push B).get (m.size + 1) = some (.cells false s1 Z) := fun B => by rw [Mem.get_push_old (by omega)]; exact hc4
          have hbp : ∀ B : Blk, (M4.push B).get m.size = some (.cells false s1 Z) := fun B => by rw [Mem.get_push_old (by omega)]; exact hb4
          have h7p : ∀ B : Blk, (M4.push B).get (m.size + 3) = some (.cells false s1 [.int .i64 a, .int .i64 b, .int .i64 c, .int .i64 d, V]) := fun B => by rw [Mem.get_push_old (by omega)]; exact h74
          cases ok
          · refine CW_cond true (by rfl) (fun _ => CW_seq (CW_region ?_)) (fun h => by cases h)
            have zp := fun B : Blk => zput (M4.push B) (hbp B)
            simp only [zZ, reduceIte, Nat.reduceLT, Int.reduceToNat, Int.reduceLE, Int.reduceEq, Int.reduceLT, Nat.reduceEqDiff, Nat.reduceAdd, zTy, hcp, zrow, zp]
            refine CW_ret ?_
            simp only [zZ, reduceIte, Nat.reduceLT, Int.reduceToNat, Int.reduceLE, Int.reduceEq, Int.reduceLT, Nat.reduceEqDiff, Nat.reduceAdd, zTy, mEnd, sAnswer, sAnswer.sRes, aLoad_g, Mem.get_set_same (hbp _)]
            exact badline _ 1 hun (holdp _) (by rw [Mem.size_push]; omega)
          · refine CW_cond false (by rfl) (fun h => by cases h) (fun _ => CW_skip ?_)
            simp only [zZ, reduceIte, Nat.reduceLT, Int.reduceToNat, Int.reduceLE, Int.reduceEq, Int.reduceLT, Nat.reduceEqDiff, Nat.reduceAdd]
            refine CW_seq (CW_region ?_)
            have hput : ∀ B : Blk, putIn 5 (M4.push B) (m.size + 3) 0 [.int .i64 a', .int .i64 b', .int .i64 c', .int .i64 d', .slice none 0 0] ((M4.push B).get (m.size + 3)) = some ((M4.push B).set (m.size + 3) (some (.cells false s1 [.int .i64 a', .int .i64 b', .int .i64 c', .int .i64 d', .slice none 0 0]))) := fun B => by
              rw [h7p]
              refine putIn_whole _ _ rfl ?_ rfl
              rfl
            simp only [zZ, reduceIte, Nat.reduceLT, Int.reduceToNat, Int.reduceLE, Int.reduceEq, Int.reduceLT, Nat.reduceEqDiff, Nat.reduceAdd, zTy, Mem.get_push_new, hput]
            refine CW_exit ?_
            simp only [zZ, reduceIte, Nat.reduceLT, Int.reduceToNat, Int.reduceLE, Int.reduceEq, Int.reduceLT, Nat.reduceEqDiff, Nat.reduceAdd]
            refine ⟨[2, 5, 6, 7, 8], ?_⟩
            simp only [zZ, reduceIte, Nat.reduceLT, Int.reduceToNat, Int.reduceLE, Int.reduceEq, Int.reduceLT, Nat.reduceEqDiff, Nat.reduceAdd, keepF]
            refine ⟨_, Thin.refl _, a', b', c', d', [], _, by simp, by rw [hun, ht0]; rfl, fun b x hb hx => ?_, by rw [Mem.size_set, Mem.size_push]; omega, Mem.get_set_same (h7p _) _, fun x hx => by simp at hx, .inl ⟨rfl, rfl⟩⟩
            rw [Mem.get_set_ne (by omega)]
            exact holdp _ b x hb hx
        · have ht0 : ¬ t = 0 := by rw [beq_eq_false_iff_ne] at hz; omega
          rw [decide_eq_false ht0, lineOf, if_neg (by decide)] at hun
          simp only [zZ, reduceIte, Nat.reduceLT, Int.reduceToNat, Int.reduceLE, Int.reduceEq, Int.reduceLT, Nat.reduceEqDiff, Nat.reduceAdd]
          refine CW_seq (CW_region ?_)
          simp only [zZ, reduceIte, Nat.reduceLT, Int.reduceToNat, Int.reduceLE, Int.reduceEq, Int.reduceLT, Nat.reduceEqDiff, Nat.reduceAdd, zTy]
          refine ⟨by kernel_rfl, _, rstep_spec ws M.size nw false M4 hg4 hnw hwn1 (fun x hx => by have := hwl3 x hx; omega) (by omega), ?_⟩
          rintro _ M5 ⟨x, V2, times, ok, rfl, hk5, hs5, hf5, hsm⟩
          obtain ⟨va, vc, hva, _⟩ := id hf5
          subst hva
          have hold5 : ∀ b y, M4.get b = some y → M5.get b = some y := fun b y hb => hk5.1 b y (get_live hb) hb
          have hxv : (stepC (x, .slice va x.files.length vc)) = [.int .i64 x.kind, .int .i64 x.n, .slice va x.files.length vc, .string (str x.text), .bool x.drop, .int .i64 x.delay, .int .i64 x.copies] := rfl
          rw [hxv]
          simp only [zZ, reduceIte, Nat.reduceLT, Int.reduceToNat, Int.reduceLE, Int.reduceEq, Int.reduceLT, Nat.reduceEqDiff, Nat.reduceAdd, zTy, halS, Mem.get_push_new, push_set]
          rw [← hxv]
          obtain ⟨M6, hM6⟩ : ∃ M6, M6 = M5.push (.cells false s2 (stepC (x, .slice va x.files.length vc))) := ⟨_, rfl⟩
          rw [← hM6]
          have hold6 : ∀ b y, M4.get b = some y → M6.get b = some y := fun b y hb => by rw [hM6, Mem.get_push_old (get_live (hold5 b y hb))]; exact hold5 b y hb
          have hx6 : M6.get M5.size = some (.cells false s2 (stepC (x, .slice va x.files.length vc))) := by rw [hM6, Mem.get_push_new]
          have hf6 : FilesAt M6 (.slice va x.files.length vc) x.files := by rw [hM6]; exact (Keeps.push 0 M5 _).files hf5
          have hs6 : M6.size = M5.size + 1 := by rw [hM6, Mem.size_push]
          clear hM6
          have hold36 : ∀ b y, b < m.size + 3 → M3.get b = some y → M6.get b = some y := fun b y hb hy => hold6 b y (hold34 b y hb hy)
          obtain ⟨_, hb6, hc6, _⟩ := grow M6 hold36
          have h76 := hold6 _ _ h74
          have hst6 : StepsAt M6 (m.size + 4) (m.size + 3) V LV := hst.same fun b y hb => hold6 b y (hold4 b y hb)
          obtain ⟨ua, ul, uc, hV⟩ := (hst6.scr (by omega)).2
          have hVl : V = .slice ua LV.length uc := by
            rcases hst6.2 with ⟨e1, e2⟩ | ⟨_, g, _, _, e2, _⟩
            · rw [hV] at e2
              cases e2
              rw [hV, e1]; rfl
            · rw [hV] at e2
              cases e2
              exact hV
          subst hVl
          clear hV
          have hlen0 : (LV.map Prod.fst).length = LV.length := List.length_map ..
          cases hso : stepOf ws with
          | none =>
            rw [hso] at hsm hun
            have hok : ok = false := hsm
            subst hok
            have zp := zput M6 hb6
            refine CW_seq (CW_seq (CW_region ?_))
            simp only [zZ, reduceIte, Nat.reduceLT, Int.reduceToNat, Int.reduceLE, Int.reduceEq, Int.reduceLT, Nat.reduceEqDiff, Nat.reduceAdd, zTy]
            refine CW_cond true (by rfl) (fun _ => CW_seq (CW_region ?_)) (fun h => by cases h)
            simp only [zZ, reduceIte, Nat.reduceLT, Int.reduceToNat, Int.reduceLE, Int.reduceEq, Int.reduceLT, Nat.reduceEqDiff, Nat.reduceAdd, zTy, hc6, zrow, zp, hti]
            refine CW_ret ?_
            simp only [zZ, reduceIte, Nat.reduceLT, Int.reduceToNat, Int.reduceLE, Int.reduceEq, Int.reduceLT, Nat.reduceEqDiff, Nat.reduceAdd, zTy, mEnd, sAnswer, sAnswer.sRes, aLoad_g, Mem.get_set_same hb6]
            exact badline _ _ hun hold36 (by omega)
          | some yy =>
            obtain ⟨yx, tm⟩ := yy
            rw [hso] at hsm hun
            obtain ⟨hok, hxy, htm⟩ := hsm
            simp only at hxy htm
            subst hok hxy htm
            have hadd : addS (LV.map Prod.fst) (some (x, tm)) = if LV.length + tm ≤ 4096 then some (LV.map Prod.fst ++ List.replicate tm x) else none := by
              rw [← hlen0]; rfl
            simp only at hun
            rw [hadd] at hun
            have htm : tm ≤ 1000 := stepOf_times hso
            have wsum : IntKind.i64.wrap ((LV.length : Int) + (tm : Int)) = ((LV.length + tm : Nat) : Int) := by rw [wr (by omega) (by omega)]; omega
            refine CW_seq (CW_seq (CW_region ?_))
            simp only [zZ, reduceIte, Nat.reduceLT, Int.reduceToNat, Int.reduceLE, Int.reduceEq, Int.reduceLT, Nat.reduceEqDiff, Nat.reduceAdd, zTy, h76, wsum]
            refine CW_cond (decide ((4096 : Int) < ((LV.length + tm : Nat) : Int))) (by rfl) (fun hbig => CW_seq (CW_region ?_)) (fun hbig => CW_skip ?_)
            · have hbig := of_decide_eq_true hbig
              rw [if_neg (by omega)] at hun
              have zp := zput M6 hb6
              simp only [zZ, reduceIte, Nat.reduceLT, Int.reduceToNat, Int.reduceLE, Int.reduceEq, Int.reduceLT, Nat.reduceEqDiff, Nat.reduceAdd, zTy, hc6, zrow, zp, hti]
              refine CW_ret ?_
              simp only [zZ, reduceIte, Nat.reduceLT, Int.reduceToNat, Int.reduceLE, Int.reduceEq, Int.reduceLT, Nat.reduceEqDiff, Nat.reduceAdd, zTy, mEnd, sAnswer, sAnswer.sRes, aLoad_g, Mem.get_set_same hb6]
              exact badline _ _ hun hold36 (by omega)
            have hbig := of_decide_eq_false hbig
            have hle : LV.length + tm ≤ 4096 := by omega
            rw [if_pos hle] at hun
            have hone := Step_one (x, .slice va x.files.length vc) va _ vc rfl
            have hnew := new_step1 (x, .slice va x.files.length vc) va _ vc rfl
            have hrow : rowIn 7 0 (some (.cells true s2 (stepC (x, .slice va x.files.length vc)))) = some (.agg (stepC (x, .slice va x.files.length vc)).toArray) := rowIn_whole (stepC_len _)
            obtain ⟨X, hX⟩ : ∃ X : StepL × Value, X = (x, .slice va x.files.length vc) := ⟨_, rfl⟩
            have hf6' : FilesAt M6 X.2 X.1.files := by rw [hX]; exact hf6
            have hXx : X.1 = x := by rw [hX]
            rw [← hX] at hx6 hone hnew hrow ⊢
            simp only [zZ, reduceIte, Nat.reduceLT, Int.reduceToNat, Int.reduceLE, Int.reduceEq, Int.reduceLT, Nat.reduceEqDiff, Nat.reduceAdd]
            refine CW_seq (CW_region ?_)
            simp only [zZ, reduceIte, Nat.reduceLT, Int.reduceToNat, Int.reduceLE, Int.reduceEq, Int.reduceLT, Nat.reduceEqDiff, Nat.reduceAdd, zTy]
            refine CW_block (MW_loop (fun j f M' => ∃ (u : Nat) (V' : Value), u + j = tm ∧ f = [(2, .pointer (some ⟨m.size, 0, none⟩)), (5, .pointer (some ⟨m.size + 1, 0, none⟩)), (6, .slice (some ⟨m.size + 2, 0, none⟩) n n), (7, .pointer (some ⟨m.size + 3, 0, none⟩)), (8, .int .i64 (t : Nat)), (12, .pointer (some ⟨M5.size, 0, none⟩)), (13, .int .i64 (tm : Nat)), (15, .int .i64 (u : Nat))] ∧
              (∀ b y, b < m.size + 3 → M3.get b = some y → M'.get b = some y) ∧ m.size + 3 < M'.size ∧ M'.get M5.size = some (.cells true s2 (stepC X)) ∧ FilesAt M' X.2 X.1.files ∧ M'.get (m.size + 3) = some (.cells false s1 [.int .i64 a, .int .i64 b, .int .i64 c, .int .i64 d, V']) ∧ StepsAt M' (m.size + 4) (m.size + 3) V' (LV ++ List.replicate u X)) tm ?_ ?_)
            · refine ⟨[2, 5, 6, 7, 8, 12, 13, 15], ?_⟩
              simp only [zZ, reduceIte, Nat.reduceLT, Int.reduceToNat, Int.reduceLE, Int.reduceEq, Int.reduceLT, Nat.reduceEqDiff, Nat.reduceAdd, keepF]
              have hM5 : m.size + 3 < M5.size := by omega
              have hsame : ∀ b y, b < M5.size → M6.get b = some y → (fz1 M5.size M6).get b = some y := fun b y hb hy => by rw [fz1_ne (by omega)]; exact hy
              refine ⟨fz1 M5.size M6, fz1_thin _ _, 0, _, by omega, rfl, fun b y hb hy => hsame b y (by omega) (hold36 b y hb hy), by unfold fz1; rw [hx6]; simp only [Mem.size_set]; omega, fz1_get hx6, (Keeps.fz1 0 M6 _ (Nat.zero_le _)).files hf6', hsame _ _ (by omega) h76, ?_⟩
              rw [List.replicate_zero, List.append_nil]
              have hst5 : StepsAt M4 (m.size + 4) (m.size + 3) (.slice ua LV.length uc) LV := hst.same fun b y hb => hold4 b y hb
              exact hst5.same fun b y hb => hsame b y (by have := get_live hb; omega) (hold6 b y hb)
            · rintro j2 f M' ⟨u, V', huj, rfl, gold, gms, gx, gf, g7, gst⟩
              have hui : IntKind.i64.wrap ((u : Int) + 1) = ((u + 1 : Nat) : Int) := by rw [wr (by omega) (by omega)]; omega
              refine CW_seq (CW_seq (CW_region ?_))
              simp only [zZ, reduceIte, Nat.reduceLT, Int.reduceToNat, Int.reduceLE, Int.reduceEq, Int.reduceLT, Nat.reduceEqDiff, Nat.reduceAdd, zTy]
              refine CW_cond (decide ((u : Int) < (tm : Int))) (by rfl) (fun h => CW_skip ?_) (fun h => CW_exit ?_)
              · simp only [zZ, reduceIte, Nat.reduceLT, Int.reduceToNat, Int.reduceLE, Int.reduceEq, Int.reduceLT, Nat.reduceEqDiff, Nat.reduceAdd]
                have hul : u < tm := by have := of_decide_eq_true h; omega
                have hlu : (LV ++ List.replicate u X).length ≤ 5000 := by rw [List.length_append, List.length_replicate]; omega
                obtain ⟨M8, ha8, hs8, hn8, hold8⟩ := stapp gst hlu X
                have h78 := hold8 _ _ (.inr (.inl rfl)) g7
                have hp8 : ∀ (gg nn cc : Nat), putIn 1 M8 (m.size + 3) 4 [.slice (some ⟨gg, 0, none⟩) nn cc] (M8.get (m.size + 3)) = some (M8.set (m.size + 3) (some (.cells false s1 [.int .i64 a, .int .i64 b, .int .i64 c, .int .i64 d, .slice (some ⟨gg, 0, none⟩) nn cc]))) := fun gg nn cc => by rw [h78]; rfl
                refine CW_seq (CW_block (CW_region ?_))
                simp only [zZ, reduceIte, Nat.reduceLT, Int.reduceToNat, Int.reduceLE, Int.reduceEq, Int.reduceLT, Nat.reduceEqDiff, Nat.reduceAdd, zTy, g7, gx, hrow, hnew, ha8, hp8]
                refine CW_region ?_
                simp only [zZ, reduceIte, Nat.reduceLT, Int.reduceToNat, Int.reduceLE, Int.reduceEq, Int.reduceLT, Nat.reduceEqDiff, Nat.reduceAdd, zTy, hui]
                refine ⟨[2, 5, 6, 7, 8, 12, 13, 15], ?_⟩
                simp only [zZ, reduceIte, Nat.reduceLT, Int.reduceToNat, Int.reduceLE, Int.reduceEq, Int.reduceLT, Nat.reduceEqDiff, Nat.reduceAdd, keepF]
                have hk8 : Keeps 0 M' (M8.set (m.size + 3) (some (.cells false s1 [.int .i64 a, .int .i64 b, .int .i64 c, .int .i64 d, .slice (some ⟨M'.size + 1, 0, none⟩) ((LV ++ List.replicate u X).length + 1) ((LV ++ List.replicate u X).length + 1)]))) := ⟨fun b y hb _ => by omega, fun b s' cs' hb => by
                  have := hold8 b _ (.inr (.inr ⟨s', cs', rfl⟩)) hb
                  rw [Mem.get_set_ne (fun e => by rw [← e, h78] at this; cases this)]
                  exact this⟩
                refine ⟨_, Thin.refl _, j2 - 1, ⟨u + 1, _, by omega, rfl, fun b y hb hy => ?_, by rw [Mem.size_set]; omega, hk8.2 _ _ _ gx, hk8.files gf, Mem.get_set_same h78 _, ?_⟩, by omega⟩
                · rw [Mem.get_set_ne (by omega)]
                  exact hold8 b y (.inl (by omega)) (gold b y hb hy)
                · have hl2 : LV ++ List.replicate (u + 1) X = (LV ++ List.replicate u X) ++ [X] := by rw [List.append_assoc, List.replicate_succ']
                  rw [hl2]
                  refine ⟨fun z hz => ?_, .inr ⟨by simp, M'.size + 1, by omega, by omega, by simp; omega, ?_⟩⟩
                  · rcases List.mem_append.1 hz with hz | hz
                    · exact hk8.files (gst.1 z hz)
                    · simp only [List.mem_singleton] at hz; subst hz; exact hk8.files gf
                  · rw [Mem.get_set_ne (by omega)]; exact hn8
              · simp only [zZ, reduceIte, Nat.reduceLT, Int.reduceToNat, Int.reduceLE, Int.reduceEq, Int.reduceLT, Nat.reduceEqDiff, Nat.reduceAdd]
                have hul : u = tm := by have := of_decide_eq_false h; omega
                refine ⟨[2, 5, 6, 7, 8], ?_⟩
                simp only [zZ, reduceIte, Nat.reduceLT, Int.reduceToNat, Int.reduceLE, Int.reduceEq, Int.reduceLT, Nat.reduceEqDiff, Nat.reduceAdd, keepF]
                refine ⟨_, Thin.refl _, a, b, c, d, LV ++ List.replicate u X, V', by rw [List.length_append, List.length_replicate]; omega, ?_, gold, gms, g7, gst⟩
                rw [hun, hul, List.map_append, List.map_replicate, hXx]
                rfl
      · rintro f M' ⟨a', b', c', d', LV', V', hl', hun', rfl, g1, g2, g3, g4⟩
        refine CW_region ?_
        simp only [zZ, reduceIte, Nat.reduceLT, Int.reduceToNat, Int.reduceLE, Int.reduceEq, Int.reduceLT, Nat.reduceEqDiff, Nat.reduceAdd, zTy, hti]
        refine ⟨[2, 5, 6, 7, 8], ?_⟩
        simp only [zZ, reduceIte, Nat.reduceLT, Int.reduceToNat, Int.reduceLE, Int.reduceEq, Int.reduceLT, Nat.reduceEqDiff, Nat.reduceAdd, keepF]
        exact ⟨_, Thin.refl _, j - 1, ⟨t + 1, a', b', c', d', LV', V', by omega, hl', hun', rfl, g1, g2, g3, g4⟩, by omega⟩
    · simp only [zZ, reduceIte, Nat.reduceLT, Int.reduceToNat, Int.reduceLE, Int.reduceEq, Int.reduceLT, Nat.reduceEqDiff, Nat.reduceAdd]
      have htl : t = q.length := by have := of_decide_eq_false h; omega
      have hdn : q.drop t = [] := List.drop_eq_nil_of_le (by omega)
      rw [hdn, runLines] at hun
      obtain ⟨hscr, va, vn, vc, hV⟩ := hst.scr (by omega)
      subst hV
      have hput : putIn 5 M m.size 0 [.int .i64 a, .int .i64 b, .int .i64 c, .int .i64 d, .slice va vn vc] (M.get m.size) = some (M.set m.size (some (.cells false s1 [.int .i64 a, .int .i64 b, .int .i64 c, .int .i64 d, .slice va vn vc]))) := by rw [hbM, hZ]; rfl
      refine CW_seq (CW_region ?_)
      simp only [zZ, reduceIte, Nat.reduceLT, Int.reduceToNat, Int.reduceLE, Int.reduceEq, Int.reduceLT, Nat.reduceEqDiff, Nat.reduceAdd, zTy, h7, hput]
      refine CW_ret ?_
      simp only [zZ, reduceIte, Nat.reduceLT, Int.reduceToNat, Int.reduceLE, Int.reduceEq, Int.reduceLT, Nat.reduceEqDiff, Nat.reduceAdd, zTy, mEnd, sAnswer, sAnswer.sRes, aLoad_g, Mem.get_set_same hbM]
      refine ⟨_, Thin.refl _, (hset _ _ hkM (by omega) hbM).1, (hset _ _ hkM (by omega) hbM).2, .slice va vn vc, by rw [hun]; rfl, ?_⟩
      rw [hun]
      exact ((hst.set_low (b := m.size) (by omega) hbM _).scr (by omega)).1
end Go.Proofs.YthcleiegefhmdaaGreatDoor
namespace Go.Proofs.YthcleiegefhmdaaGreatDoor
open Go.RowKit Abs
set_option maxRecDepth 100000 in
set_option maxHeartbeats 2000000 in
theorem filesame_spec (files : List FileL) (a b : Option Addr) (ca cb : Nat) (m : Mem) (hA : Rd m 2 (.slice a files.length ca) files.length (files.flatMap fileC)) (hB : Rd m 2 (.slice b files.length cb) files.length (files.flatMap fileC)) (hl : files.length ≤ 1000000000) :
    Abs.Spec Tryz.prog 33 [.slice a files.length ca, .slice b files.length cb] m fun u M => u = .bool true ∧ M = m := by
  refine Abs.Spec.walkB Tryz.func33 (by rfl) _ Tryz.results33 _ Tryz.ntmps33 (by simp) m [] (ext_nil m).symm 0 rfl (.inl rfl) ?_
  intro hc hx
  replace hx := hx rfl
  have fa : ∀ keep j, ren (sig m.size keep) j (.slice a files.length ca) = some (.slice a files.length ca) := Cl.fix (hx _ (by simp))
  have fb : ∀ keep j, ren (sig m.size keep) j (.slice b files.length cb) = some (.slice b files.length cb) := Cl.fix (hx _ (by simp))
  have z0 : ((files.length : Int) != (files.length : Int)) = false := by simp
  refine CW_seq (CW_region ?_)
  simp only [zZ, reduceIte, Nat.reduceLT, Int.reduceToNat, Int.reduceLE, Int.reduceEq, Int.reduceLT, Nat.reduceEqDiff, Nat.reduceAdd, zTy]
  refine CW_seq (CW_seq (CW_region ?_))
  simp only [zZ, reduceIte, Nat.reduceLT, Int.reduceToNat, Int.reduceLE, Int.reduceEq, Int.reduceLT, Nat.reduceEqDiff, Nat.reduceAdd, zTy, z0]
  refine CW_cond false (by rfl) (fun h => by cases h) (fun _ => CW_skip ?_)
  simp only [zZ, reduceIte, Nat.reduceLT, Int.reduceToNat, Int.reduceLE, Int.reduceEq, Int.reduceLT, Nat.reduceEqDiff, Nat.reduceAdd]
  refine CW_seq (CW_seq (CW_region ?_))
  simp only [zZ, reduceIte, Nat.reduceLT, Int.reduceToNat, Int.reduceLE, Int.reduceEq, Int.reduceLT, Nat.reduceEqDiff, Nat.reduceAdd, zTy]
  refine CW_block (BW_loop hc (fun n f l => ∃ t : Nat, t + n = files.length ∧ f = [(0, .slice a files.length ca), (1, .slice b files.length cb), (5, .int .i64 (t : Nat))] ∧ l = []) files.length ?_ ?_)
  · refine ⟨_, rfl, [], [0, 1, 5], rfl, ?_⟩
    simp only [zZ, reduceIte, Nat.reduceLT, Int.reduceToNat, Int.reduceLE, Int.reduceEq, Int.reduceLT, Nat.reduceEqDiff, Nat.reduceAdd, zG, fa, fb]
    exact ⟨0, by omega, rfl⟩
  · rintro n f l ⟨t, htn, rfl, rfl⟩
    refine CW_seq (CW_seq (CW_region ?_))
    simp only [zZ, reduceIte, Nat.reduceLT, Int.reduceToNat, Int.reduceLE, Int.reduceEq, Int.reduceLT, Nat.reduceEqDiff, Nat.reduceAdd, zTy]
    refine CW_cond (decide ((t : Int) < (files.length : Int))) (by rfl) (fun h => CW_skip ?_) (fun h => CW_exit ?_)
    · simp only [zZ, reduceIte, Nat.reduceLT, Int.reduceToNat, Int.reduceLE, Int.reduceEq, Int.reduceLT, Nat.reduceEqDiff, Nat.reduceAdd]
      have htl : t < files.length := by have := of_decide_eq_true h; omega
      have h0 : (0 : Int) ≤ (t : Int) := by omega
      have h1 : (t : Int) < (files.length : Int) := by omega
      obtain ⟨ga, ra, hpa, hga⟩ := hA.at (by omega)
      obtain ⟨gb, rb, hpb, hgb⟩ := hB.at (by omega)
      have hla : ∀ l, (ext m l).get ga = some (.cells ra 2 (files.flatMap fileC)) := fun l => ext_get_old l hga
      have hlb : ∀ l, (ext m l).get gb = some (.cells rb 2 (files.flatMap fileC)) := fun l => ext_get_old l hgb
      have sa : ∀ keep, sig m.size keep ga = some ga := fun keep => sig_old keep (Mem.get_lt hga)
      have sb : ∀ keep, sig m.size keep gb = some gb := fun keep => sig_old keep (Mem.get_lt hgb)
      obtain ⟨A, hF⟩ : ∃ A, files[t]? = some A := ⟨_, List.getElem?_eq_getElem htl⟩
      have c0 : (files.flatMap fileC)[t * 2]? = some (.string (str A.1)) := flatMap_get (fun a _ => fileC_len a) hF (o := 0) (by decide)
      have c1 : (files.flatMap fileC)[t * 2 + 1]? = some (.string (str A.2)) := flatMap_get (fun a _ => fileC_len a) hF (o := 1) (by decide)
      have e0 : ∀ s : List UInt8, (!beqB (str s) (str s)) = false := fun s => by rw [beqB_str, decide_eq_true rfl]; rfl
      have ti : IntKind.i64.wrap ((t : Int) + 1) = ((t + 1 : Nat) : Int) := by rw [wr (by omega) (by omega)]; omega
      subst hpa
      subst hpb
      refine CW_seq (CW_block (CW_seq (CW_draw hmix 22 (by kernel_rfl) (by kernel_rfl) ?_)))
      simp only [zZ, reduceIte, Nat.reduceLT, Int.reduceToNat, Int.reduceLE, Int.reduceEq, Int.reduceLT, Nat.reduceEqDiff, Nat.reduceAdd, zTy, h0, h1, and_self, hla, hlb, c0, c1, e0]
      refine CW_cond false (by rfl) (fun h => by cases h) (fun _ => CW_skip ?_)
      simp only [zZ, reduceIte, Nat.reduceLT, Int.reduceToNat, Int.reduceLE, Int.reduceEq, Int.reduceLT, Nat.reduceEqDiff, Nat.reduceAdd]
      refine CW_region ?_
      simp only [zZ, reduceIte, Nat.reduceLT, Int.reduceToNat, Int.reduceLE, Int.reduceEq, Int.reduceLT, Nat.reduceEqDiff, Nat.reduceAdd, zTy, ti]
      refine ⟨_, rfl, [], [0, 1, 5], rfl, ?_⟩
      simp only [zZ, reduceIte, Nat.reduceLT, Int.reduceToNat, Int.reduceLE, Int.reduceEq, Int.reduceLT, Nat.reduceEqDiff, Nat.reduceAdd, zG, sa, sb]
      exact ⟨n - 1, ⟨t + 1, by omega, rfl⟩, by omega⟩
    · simp only [zZ, reduceIte, Nat.reduceLT, Int.reduceToNat, Int.reduceLE, Int.reduceEq, Int.reduceLT, Nat.reduceEqDiff, Nat.reduceAdd]
      refine CW_seq (CW_region ?_)
      simp only [zZ, reduceIte, Nat.reduceLT, Int.reduceToNat, Int.reduceLE, Int.reduceEq, Int.reduceLT, Nat.reduceEqDiff, Nat.reduceAdd, zTy]
      refine CW_ret ?_
      simp only [zZ, reduceIte, Nat.reduceLT, Int.reduceToNat, Int.reduceLE, Int.reduceEq, Int.reduceLT, Nat.reduceEqDiff, Nat.reduceAdd, zTy, bEnd, sAnswer, sAnswer.sRes]
      exact told_flat rfl rfl
theorem ne_fate (cx : Bool) (b : Bool) (d c : Int) : aBin Tryz.prog .neq 50 cx (.agg #[.bool b, .int .i64 d, .int .i64 c]) (.agg #[.bool b, .int .i64 d, .int .i64 c]) = some (.bool false) := by
  have e0 : ∀ (b1 b2 : Bool) (d1 d2 c1 c2 : Int), aBin Tryz.prog .neq 50 cx (.agg #[.bool b1, .int .i64 d1, .int .i64 c1]) (.agg #[.bool b2, .int .i64 d2, .int .i64 c2]) = (match some (b1 == b2) with
      | some true => (match some (d1 == d2) with
        | some true => (match some (c1 == c2) with
          | some true => some true
          | some false => some false
          | none => none)
        | some false => some false
        | none => none)
      | some false => some false
      | none => none).map fun b => .bool !b := fun _ _ _ _ _ _ => by kernel_rfl
  rw [e0]
  simp
set_option maxRecDepth 100000 in
set_option maxHeartbeats 2000000 in
theorem samesteps_spec (L : List StepL) (a b : Option Addr) (ca cb : Nat) (m : Mem) (hA : ScrAt m (.slice a L.length ca) L) (hB : ScrAt m (.slice b L.length cb) L) (hl : L.length ≤ 1000000000) (hfl : ∀ x ∈ L, x.files.length ≤ 1000000000) :
    Abs.Spec Tryz.prog 15 [.slice a L.length ca, .slice b L.length cb] m fun u M => u = .bool true ∧ M = m := by
  refine Abs.Spec.walkB Tryz.func15 (by rfl) _ Tryz.results15 _ Tryz.ntmps15 (by simp) m [] (ext_nil m).symm 0 rfl (.inl rfl) ?_
  intro hc hx
  replace hx := hx rfl
  have fa : ∀ keep j, ren (sig m.size keep) j (.slice a L.length ca) = some (.slice a L.length ca) := Cl.fix (hx _ (by simp))
  have fb : ∀ keep j, ren (sig m.size keep) j (.slice b L.length cb) = some (.slice b L.length cb) := Cl.fix (hx _ (by simp))
  have z0 : ((L.length : Int) != (L.length : Int)) = false := by simp
  have zz : ∀ k : Int, (k != k) = false := fun k => by simp
  have hal := al_Step
  generalize aStride Tryz.prog 52 = s1 at hal
  obtain ⟨LA, hA1, hA2, hA3⟩ := hA
  obtain ⟨LB, hB1, hB2, hB3⟩ := hB
  have hLA : LA.length = L.length := by rw [← hA1, List.length_map]
  have hLB : LB.length = L.length := by rw [← hB1, List.length_map]
  refine CW_seq (CW_region ?_)
  simp only [zZ, reduceIte, Nat.reduceLT, Int.reduceToNat, Int.reduceLE, Int.reduceEq, Int.reduceLT, Nat.reduceEqDiff, Nat.reduceAdd, zTy]
  refine CW_seq (CW_seq (CW_region ?_))
  simp only [zZ, reduceIte, Nat.reduceLT, Int.reduceToNat, Int.reduceLE, Int.reduceEq, Int.reduceLT, Nat.reduceEqDiff, Nat.reduceAdd, zTy, z0]
  refine CW_cond false (by rfl) (fun h => by cases h) (fun _ => CW_skip ?_)
  simp only [zZ, reduceIte, Nat.reduceLT, Int.reduceToNat, Int.reduceLE, Int.reduceEq, Int.reduceLT, Nat.reduceEqDiff, Nat.reduceAdd]
  refine CW_seq (CW_seq (CW_region ?_))
  simp only [zZ, reduceIte, Nat.reduceLT, Int.reduceToNat, Int.reduceLE, Int.reduceEq, Int.reduceLT, Nat.reduceEqDiff, Nat.reduceAdd, zTy]
  refine CW_block (BW_loop hc (fun n f l => ∃ t : Nat, t + n = L.length ∧ f = [(0, .slice a L.length ca), (1, .slice b L.length cb), (5, .int .i64 (t : Nat))] ∧ l = []) L.length ?_ ?_)
  · refine ⟨_, rfl, [], [0, 1, 5], rfl, ?_⟩
    simp only [zZ, reduceIte, Nat.reduceLT, Int.reduceToNat, Int.reduceLE, Int.reduceEq, Int.reduceLT, Nat.reduceEqDiff, Nat.reduceAdd, zG, fa, fb]
    exact ⟨0, by omega, rfl⟩
  · rintro n f l ⟨t, htn, rfl, rfl⟩
    refine CW_seq (CW_seq (CW_region ?_))
    simp only [zZ, reduceIte, Nat.reduceLT, Int.reduceToNat, Int.reduceLE, Int.reduceEq, Int.reduceLT, Nat.reduceEqDiff, Nat.reduceAdd, zTy]
    refine CW_cond (decide ((t : Int) < (L.length : Int))) (by rfl) (fun h => CW_skip ?_) (fun h => CW_exit ?_)
    · simp only [zZ, reduceIte, Nat.reduceLT, Int.reduceToNat, Int.reduceLE, Int.reduceEq, Int.reduceLT, Nat.reduceEqDiff, Nat.reduceAdd]
      have htl : t < L.length := by have := of_decide_eq_true h; omega
      have h0 : (0 : Int) ≤ (t : Int) := by omega
      have h1 : (t : Int) < (L.length : Int) := by omega
      obtain ⟨ga, ra, hpa, hga⟩ := hA3.at (by omega)
      obtain ⟨gb, rb, hpb, hgb⟩ := hB3.at (by omega)
      have hla : ∀ l, (ext m l).get ga = some (.cells ra 7 (LA.flatMap stepC)) := fun l => ext_get_old l hga
      have hlb : ∀ l, (ext m l).get gb = some (.cells rb 7 (LB.flatMap stepC)) := fun l => ext_get_old l hgb
      have sa : ∀ keep, sig m.size keep ga = some ga := fun keep => sig_old keep (Mem.get_lt hga)
      have sb : ∀ keep, sig m.size keep gb = some gb := fun keep => sig_old keep (Mem.get_lt hgb)
      obtain ⟨⟨x, V⟩, hX⟩ : ∃ A, LA[t]? = some A := ⟨_, List.getElem?_eq_getElem (by omega)⟩
      obtain ⟨⟨x', V'⟩, hX'⟩ : ∃ A, LB[t]? = some A := ⟨_, List.getElem?_eq_getElem (by omega)⟩
      have hxx : x' = x := by
        have e1 : (LA.map Prod.fst)[t]? = some x := by rw [List.getElem?_map, hX]; rfl
        have e2 : (LB.map Prod.fst)[t]? = some x' := by rw [List.getElem?_map, hX']; rfl
        rw [hA1] at e1
        rw [hB1, e1] at e2
        exact (Option.some.inj e2).symm
      subst hxx
      have hxL : x' ∈ L := by rw [← hA1]; exact List.mem_map.2 ⟨_, List.mem_of_getElem? hX, rfl⟩
      have hV := hA2 _ (List.mem_of_getElem? hX)
      have hV' := hB2 _ (List.mem_of_getElem? hX')
      simp only at hV hV'
      obtain ⟨va, vc, rfl⟩ := hV.len
      obtain ⟨wa, wc, rfl⟩ := hV'.len
      have r1 : rowIn 7 (t * 7) (some (.cells ra 7 (LA.flatMap stepC))) = some (.agg #[.int .i64 x'.kind, .int .i64 x'.n, .slice va x'.files.length vc, .string (str x'.text), .bool x'.drop, .int .i64 x'.delay, .int .i64 x'.copies]) := rowIn_at (n := 7) (fun a _ => stepC_len a) hX ra 7
      have r2 : rowIn 7 (t * 7) (some (.cells rb 7 (LB.flatMap stepC))) = some (.agg #[.int .i64 x'.kind, .int .i64 x'.n, .slice wa x'.files.length wc, .string (str x'.text), .bool x'.drop, .int .i64 x'.delay, .int .i64 x'.copies]) := rowIn_at (n := 7) (fun a _ => stepC_len a) hX' rb 7
      have e0 : ∀ s : List UInt8, (!beqB (str s) (str s)) = false := fun s => by rw [beqB_str, decide_eq_true rfl]; rfl
      have ti : IntKind.i64.wrap ((t : Int) + 1) = ((t + 1 : Nat) : Int) := by rw [wr (by omega) (by omega)]; omega
      subst hpa
      subst hpb
      refine CW_seq (CW_block (CW_seq (CW_draw4 hmix 10 [4, 5, 6, 7] (by kernel_rfl) ?_)))
      simp only [sQB, idleOK, List.getElem?_cons_succ, List.getElem?_cons_zero, Option.bind_some, zZ, reduceIte, Nat.reduceLT, Int.reduceToNat, Int.reduceLE, Int.reduceEq, Int.reduceLT, Nat.reduceEqDiff, Nat.reduceAdd, zTy, h0, h1, and_self, hla, hlb, r1, r2, hal]
      refine ⟨⟨⟨_, rfl⟩, ⟨_, rfl⟩, ⟨_, rfl⟩, ⟨_, rfl⟩⟩, ?_⟩
      refine CW_seq (CW_region ?_)
      simp only [zZ, reduceIte, Nat.reduceLT, Int.reduceToNat, Int.reduceLE, Int.reduceEq, Int.reduceLT, Nat.reduceEqDiff, Nat.reduceAdd, zTy, zz, e0, ne_fate]
      refine ⟨by kernel_rfl, _, filesame_spec x'.files va wa vc wc _ (hV.rd.grow (Grows.ext m _)) (hV'.rd.grow (Grows.ext m _)) (hfl _ hxL), ?_⟩
      rintro _ _ ⟨rfl, rfl⟩
      simp only [zZ, reduceIte, Nat.reduceLT, Int.reduceToNat, Int.reduceLE, Int.reduceEq, Int.reduceLT, Nat.reduceEqDiff, Nat.reduceAdd, zTy]
      refine CW_cond false (by rfl) (fun h => by cases h) (fun _ => CW_skip ?_)
      simp only [zZ, reduceIte, Nat.reduceLT, Int.reduceToNat, Int.reduceLE, Int.reduceEq, Int.reduceLT, Nat.reduceEqDiff, Nat.reduceAdd]
      refine CW_region ?_
      simp only [zZ, reduceIte, Nat.reduceLT, Int.reduceToNat, Int.reduceLE, Int.reduceEq, Int.reduceLT, Nat.reduceEqDiff, Nat.reduceAdd, zTy, ti]
      refine ⟨_, rfl, [], [0, 1, 5], rfl, ?_⟩
      simp only [zZ, reduceIte, Nat.reduceLT, Int.reduceToNat, Int.reduceLE, Int.reduceEq, Int.reduceLT, Nat.reduceEqDiff, Nat.reduceAdd, zG, sa, sb]
      exact ⟨n - 1, ⟨t + 1, by omega, rfl⟩, by omega⟩
    · simp only [zZ, reduceIte, Nat.reduceLT, Int.reduceToNat, Int.reduceLE, Int.reduceEq, Int.reduceLT, Nat.reduceEqDiff, Nat.reduceAdd]
      refine CW_seq (CW_region ?_)
      simp only [zZ, reduceIte, Nat.reduceLT, Int.reduceToNat, Int.reduceLE, Int.reduceEq, Int.reduceLT, Nat.reduceEqDiff, Nat.reduceAdd, zTy]
      refine CW_ret ?_
      simp only [zZ, reduceIte, Nat.reduceLT, Int.reduceToNat, Int.reduceLE, Int.reduceEq, Int.reduceLT, Nat.reduceEqDiff, Nat.reduceAdd, zTy, bEnd, sAnswer, sAnswer.sRes]
      exact told_flat rfl rfl
set_option maxRecDepth 100000 in
set_option maxHeartbeats 2000000 in
theorem same_spec (x : PS) (a b : Option Addr) (ca cb : Nat) (m : Mem) (hA : ScrAt m (.slice a x.2.2.2.2.length ca) x.2.2.2.2) (hB : ScrAt m (.slice b x.2.2.2.2.length cb) x.2.2.2.2) (hl : x.2.2.2.2.length ≤ 1000000000) (hfl : ∀ y ∈ x.2.2.2.2, y.files.length ≤ 1000000000) :
    Abs.Spec Tryz.prog 6 [scrAgg x (.slice a x.2.2.2.2.length ca), scrAgg x (.slice b x.2.2.2.2.length cb)] m fun u M => u = .bool true ∧ M = m := by
  refine Abs.Spec.walkB Tryz.func6 (by rfl) _ Tryz.results6 _ Tryz.ntmps6 (by simp) m [] (ext_nil m).symm 0 rfl (.inl rfl) ?_
  intro hc hx
  obtain ⟨x0, x1, x2, x3, L⟩ := x
  have bA : nBox Tryz.prog 26 (scrAgg (x0, x1, x2, x3, L) (.slice a L.length ca)) = some (.cells false (aStride Tryz.prog 26) [.int .i64 x0, .int .i64 x1, .int .i64 x2, .int .i64 x3, .slice a L.length ca]) := bx_Scr _ rfl
  have bB : nBox Tryz.prog 31 (scrAgg (x0, x1, x2, x3, L) (.slice b L.length cb)) = some (.cells false (aStride Tryz.prog 31) [.int .i64 x0, .int .i64 x1, .int .i64 x2, .int .i64 x3, .slice b L.length cb]) := bx_RScr _ rfl
  generalize aStride Tryz.prog 26 = s1 at bA
  generalize aStride Tryz.prog 31 = s2 at bB
  have zz : ∀ k : Int, (k == k) = true := fun k => by simp
  simp only at hA hB hl hfl ⊢
  have grow : ∀ l V, ScrAt m V L → ScrAt (ext m l) V L := fun l V h => by
    obtain ⟨LV, h1, h2, h3⟩ := h
    exact ⟨LV, h1, fun q hq => (Keeps.ext 0 m l).files (h2 q hq), h3.grow (Grows.ext m l)⟩
  refine CW_seq (CW_region ?_)
  simp only [zZ, reduceIte, Nat.reduceLT, Int.reduceToNat, Int.reduceLE, Int.reduceEq, Int.reduceLT, Nat.reduceEqDiff, Nat.reduceAdd, zTy, bA, bB]
  refine CW_seq (CW_region ?_)
  simp only [zZ, reduceIte, Nat.reduceLT, Int.reduceToNat, Int.reduceLE, Int.reduceEq, Int.reduceLT, Nat.reduceEqDiff, Nat.reduceAdd, zTy, zz]
  refine ⟨by kernel_rfl, _, samesteps_spec L a b ca cb _ (grow _ _ hA) (grow _ _ hB) hl hfl, ?_⟩
  rintro _ _ ⟨rfl, rfl⟩
  simp only [zZ, reduceIte, Nat.reduceLT, Int.reduceToNat, Int.reduceLE, Int.reduceEq, Int.reduceLT, Nat.reduceEqDiff, Nat.reduceAdd, zTy]
  refine CW_ret ?_
  simp only [zZ, reduceIte, Nat.reduceLT, Int.reduceToNat, Int.reduceLE, Int.reduceEq, Int.reduceLT, Nat.reduceEqDiff, Nat.reduceAdd, zTy, bEnd, sAnswer, sAnswer.sRes]
  exact told_flat rfl rfl
end Go.Proofs.YthcleiegefhmdaaGreatDoor
namespace Go.Proofs.YthcleiegefhmdaaGreatDoor
open Go.RowKit Abs
def fileW (f : FileL) : List UInt8 := hexV f.1 ++ [58] ++ hexV f.2
def stepLine (x : StepL) : List UInt8 :=
  if x.kind = 0 then lineL ([112, 97, 99, 107] :: x.files.map fileW) else
  if x.kind = 2 ∨ x.kind = 3 then lineL [[102, 117, 115, 101], sideL (3 - x.kind), Lib.itoa x.n] else
  if x.kind = 4 ∨ x.kind = 5 then lineL [[99, 114, 97, 115, 104], sideL (5 - x.kind), Lib.itoa x.n] else
  if x.kind = 6 then lineL [[105, 110, 106, 101, 99, 116], sideL (bits BinOp.and IntKind.i64 x.n 1), hexV x.text, Lib.itoa x.delay] else
  if x.kind = 7 then (if x.drop = true then lineL [[102, 97, 116, 101], [100, 114, 111, 112]] else lineL [[102, 97, 116, 101], Lib.itoa x.delay, Lib.itoa x.copies]) else []
def tickNext : List StepL → Bool
  | [] => false
  | x :: _ => decide (x.kind = 1)
def printB : Nat → List StepL → List UInt8
  | _, [] => []
  | n, x :: r => if x.kind = 1 then (if tickNext r = true ∧ n + 1 < 1000 then printB (n + 1) r else lineL [[116, 105, 99, 107], Lib.itoa ((n + 1 : Nat) : Int)] ++ printB 0 r) else stepLine x ++ printB 0 r
def printV (s : PS) : List UInt8 := lineL [[119, 111, 114, 108, 100], Lib.itoa s.1, Lib.itoa s.2.1, Lib.itoa s.2.2.1, Lib.itoa s.2.2.2.1] ++ printB 0 s.2.2.2.2
def isI64 (n : Int) : Prop := -9223372036854775808 ≤ n ∧ n ≤ 9223372036854775807
structure StepOk (x : StepL) : Prop where
  n : isI64 x.n
  delay : isI64 x.delay
  copies : isI64 x.copies
  text : x.text.length ≤ 1000000
  files : x.files.length ≤ 1000000
  file : ∀ f ∈ x.files, f.1.length ≤ 1000000 ∧ f.2.length ≤ 1000000
theorem hexV_len (l : List UInt8) : (hexV l).length ≤ 2 * l.length + 1 := by
  have : ∀ q : List UInt8, (hexL q).length = 2 * q.length := fun q => by
    induction q with
    | nil => rfl
    | cons x q ih => simp only [hexL, List.flatMap_cons, List.length_append, List.length_cons, List.length_nil] at ih ⊢; omega
  unfold hexV
  split
  · simp
  · rw [this]; omega
theorem bit_one (n : Int) (h : isI64 n) : bits BinOp.and IntKind.i64 n 1 = 0 ∨ bits BinOp.and IntKind.i64 n 1 = 1 := by
  have h1 : (BitVec.ofInt 64 1).toNat = 2 ^ 1 - 1 := by decide
  have key : (BitVec.ofInt 64 n &&& BitVec.ofInt 64 1).toNat = (n % ((2 ^ 64 : Nat) : Int)).toNat % 2 ^ 1 := by
    rw [BitVec.toNat_and, BitVec.toNat_ofInt, h1, Nat.and_two_pow_sub_one_eq_mod]
  have e : bits .and .i64 n 1 = IntKind.i64.wrap ((BitVec.ofInt 64 n &&& BitVec.ofInt 64 1).toNat : Nat) := rfl
  rw [e, key, IntKind.wrap_i64]
  omega
theorem al_B : nAlloc Tryz.prog 78 = some (.cells false 0 [.pointer none, .slice none 0 0]) := by kernel_rfl
theorem new_s1 (a : ByteArray) : nBuildSlice Tryz.prog 43 1 [(0, .string a)] = some (.cells false 1 [.string a]) := by kernel_rfl
theorem new_s2 (a b : ByteArray) : nBuildSlice Tryz.prog 43 2 [(0, .string a), (1, .string b)] = some (.cells false 1 [.string a, .string b]) := by kernel_rfl
theorem new_s3 (a b c : ByteArray) : nBuildSlice Tryz.prog 43 3 [(0, .string a), (1, .string b), (2, .string c)] = some (.cells false 1 [.string a, .string b, .string c]) := by kernel_rfl
theorem new_s4 (a b c d : ByteArray) : nBuildSlice Tryz.prog 43 4 [(0, .string a), (1, .string b), (2, .string c), (3, .string d)] = some (.cells false 1 [.string a, .string b, .string c, .string d]) := by kernel_rfl
theorem new_s5 (a b c d e : ByteArray) : nBuildSlice Tryz.prog 43 5 [(0, .string a), (1, .string b), (2, .string c), (3, .string d), (4, .string e)] = some (.cells false 1 [.string a, .string b, .string c, .string d, .string e]) := by kernel_rfl
set_option maxRecDepth 100000 in
set_option maxHeartbeats 4000000 in
theorem print_spec (x : PS) (a : Option Addr) (ca : Nat) (m : Mem) (hA : ScrAt m (.slice a x.2.2.2.2.length ca) x.2.2.2.2) (h0 : isI64 x.1) (h1 : isI64 x.2.1) (h2 : isI64 x.2.2.1) (h3 : isI64 x.2.2.2.1) (hl : x.2.2.2.2.length ≤ 1000000000) (hok : ∀ y ∈ x.2.2.2.2, StepOk y) (hT : (printV x).length ≤ 140737488355328) :
    Abs.Spec Tryz.prog 16 [scrAgg x (.slice a x.2.2.2.2.length ca)] m fun u M => u = .string (str (printV x)) ∧ Keeps m.size m M := by
  refine Abs.Spec.walkM Tryz.func16 (by rfl) _ Tryz.results16 _ Tryz.ntmps16 (by simp) ?_
  intro hc hx k
  obtain ⟨x0, x1, x2, x3, L⟩ := x
  simp only at hA h0 h1 h2 h3 hl hok ⊢
  obtain ⟨T, hTe⟩ : ∃ T, T = printV (x0, x1, x2, x3, L) := ⟨_, rfl⟩
  rw [← hTe] at hT ⊢
  have bA : nBox Tryz.prog 26 (scrAgg (x0, x1, x2, x3, L) (.slice a L.length ca)) = some (.cells false (aStride Tryz.prog 26) [.int .i64 x0, .int .i64 x1, .int .i64 x2, .int .i64 x3, .slice a L.length ca]) := bx_Scr _ rfl
  generalize aStride Tryz.prog 26 = s1 at bA
  have hal := al_Step
  generalize aStride Tryz.prog 52 = s2 at hal
  have halF : nAlloc Tryz.prog 57 = some (.cells false (aStride Tryz.prog 57) [.string ⟨#[]⟩, .string ⟨#[]⟩]) := al_File
  generalize aStride Tryz.prog 57 = s3 at halF
  obtain ⟨LA, hA1, hA2, hA3⟩ := hA
  have hLA : LA.length = L.length := by rw [← hA1, List.length_map]
  have hB := al_B
  refine CW_seq (CW_region ?_)
  simp only [zZ, reduceIte, Nat.reduceLT, Int.reduceToNat, Int.reduceLE, Int.reduceEq, Int.reduceLT, Nat.reduceEqDiff, Nat.reduceAdd, zTy, bA]
  obtain ⟨M1, hM1⟩ : ∃ M1, M1 = m.push (.cells false s1 [.int .i64 x0, .int .i64 x1, .int .i64 x2, .int .i64 x3, .slice a L.length ca]) := ⟨_, rfl⟩
  rw [← hM1]
  obtain ⟨p, hp⟩ : ∃ p, p = m.size + 1 := ⟨_, rfl⟩
  have hM1s : M1.size = p := by rw [hM1, Mem.size_push, hp]
  refine CW_seq (CW_region ?_)
  simp only [zZ, reduceIte, Nat.reduceLT, Int.reduceToNat, Int.reduceLE, Int.reduceEq, Int.reduceLT, Nat.reduceEqDiff, Nat.reduceAdd, zTy, hB, hM1s]
  obtain ⟨M0, hM0⟩ : ∃ M0, M0 = M1.push (.cells false 0 [.pointer none, .slice none 0 0]) := ⟨_, rfl⟩
  rw [← hM0]
  have hM0s : M0.size = p + 1 := by rw [hM0, Mem.size_push, hM1s]
  have hold0 : ∀ b y, m.get b = some y → M0.get b = some y := fun b y hb => by
    have := get_live hb
    rw [hM0, Mem.get_push_old (by omega), hM1, Mem.get_push_old this]; exact hb
  have hsc0 : M0.get m.size = some (.cells false s1 [.int .i64 x0, .int .i64 x1, .int .i64 x2, .int .i64 x3, .slice a L.length ca]) := by
    rw [hM0, Mem.get_push_old (by omega), hM1, Mem.get_push_new]
  have hB0 : BAt p M0 p [] := ⟨Nat.le_refl _, _, _, by
    have := Mem.get_push_new M1 (.cells false 0 [.pointer none, .slice none 0 0])
    rw [hM1s] at this
    rw [hM0]; exact this, .inl rfl, .inl ⟨rfl, rfl⟩⟩
  refine CW_seq (CW_region ?_)
  simp only [zZ, reduceIte, Nat.reduceLT, Int.reduceToNat, Int.reduceLE, Int.reduceEq, Int.reduceLT, Nat.reduceEqDiff, Nat.reduceAdd, zTy, vFunc]
  refine CW_seq (CW_region ?_)
  simp only [zZ, reduceIte, Nat.reduceLT, Int.reduceToNat, Int.reduceLE, Int.reduceEq, Int.reduceLT, Nat.reduceEqDiff, Nat.reduceAdd, zTy]
  refine CW_seq (CW_draw hmix 20 (by kernel_rfl) (by kernel_rfl) ?_)
  simp only [zZ, reduceIte, Nat.reduceLT, Int.reduceToNat, Int.reduceLE, Int.reduceEq, Int.reduceLT, Nat.reduceEqDiff, Nat.reduceAdd, zTy, hsc0]
  refine ⟨by kernel_rfl, _, itoa_spec x0 h0.1 h0.2 _, ?_⟩
  refine ⟨by decide, ?_⟩
  simp only [zZ, reduceIte, Nat.reduceLT, Int.reduceToNat, Int.reduceLE, Int.reduceEq, Int.reduceLT, Nat.reduceEqDiff, Nat.reduceAdd, zTy, hsc0]
  refine ⟨by kernel_rfl, _, itoa_spec x1 h1.1 h1.2 _, ?_⟩
  refine ⟨by decide, ?_⟩
  simp only [zZ, reduceIte, Nat.reduceLT, Int.reduceToNat, Int.reduceLE, Int.reduceEq, Int.reduceLT, Nat.reduceEqDiff, Nat.reduceAdd, zTy, hsc0]
  refine ⟨by kernel_rfl, _, itoa_spec x2 h2.1 h2.2 _, ?_⟩
  refine ⟨by decide, ?_⟩
  simp only [zZ, reduceIte, Nat.reduceLT, Int.reduceToNat, Int.reduceLE, Int.reduceEq, Int.reduceLT, Nat.reduceEqDiff, Nat.reduceAdd, zTy, hsc0]
  refine ⟨by kernel_rfl, _, itoa_spec x3 h3.1 h3.2 _, ?_⟩
  refine ⟨by decide, ?_⟩
  simp only [zZ, reduceIte, Nat.reduceLT, Int.reduceToNat, Int.reduceLE, Int.reduceEq, Int.reduceLT, Nat.reduceEqDiff, Nat.reduceAdd, zTy, hsc0, new_s5]
  obtain ⟨hd, hhd⟩ : ∃ hd, hd = lineL [[119, 111, 114, 108, 100], Lib.itoa x0, Lib.itoa x1, Lib.itoa x2, Lib.itoa x3] := ⟨_, rfl⟩
  have hT0 : T = hd ++ printB 0 L := by rw [hTe, hhd]; rfl
  have hlenT : ∀ t ws r, T = t ++ (lineL ws ++ r) → t.length + (lineL ws).length ≤ 140737488355328 := fun t ws r h => by
    rw [h] at hT
    simp only [List.length_append] at hT
    omega
  refine ⟨by kernel_rfl, _, put_new p p M0 [] [[119, 111, 114, 108, 100], Lib.itoa x0, Lib.itoa x1, Lib.itoa x2, Lib.itoa x3] hB0 (by simp) (by simp) (hlenT [] _ (printB 0 L) (by rw [hT0, hhd]; rfl)), ?_⟩
  rintro _ M2 ⟨rfl, hB2, hk2, hs2⟩
  rw [List.nil_append, ← hhd] at hB2
  simp only [zZ, reduceIte, Nat.reduceLT, Int.reduceToNat, Int.reduceLE, Int.reduceEq, Int.reduceLT, Nat.reduceEqDiff, Nat.reduceAdd, zTy]
  refine CW_seq (CW_region ?_)
  simp only [zZ, reduceIte, Nat.reduceLT, Int.reduceToNat, Int.reduceLE, Int.reduceEq, Int.reduceLT, Nat.reduceEqDiff, Nat.reduceAdd, zTy]
  refine CW_seq (CW_seq (CW_region ?_))
  simp only [zZ, reduceIte, Nat.reduceLT, Int.reduceToNat, Int.reduceLE, Int.reduceEq, Int.reduceLT, Nat.reduceEqDiff, Nat.reduceAdd, zTy]
  obtain ⟨c1, hc1⟩ : ∃ c : Value, c = .func (.func 34) #[] #[.pointer (some ⟨p, 0, none⟩)] := ⟨_, rfl⟩
  refine CW_block (MW_loop (fun j f M => ∃ (i : Nat) (t : List UInt8), i + j = L.length ∧ f = [(1, .pointer (some ⟨m.size, 0, none⟩)), (3, .pointer (some ⟨p, 0, none⟩)), (4, .func (.func 34) #[] #[.pointer (some ⟨p, 0, none⟩)]), (5, .func (.func 37) #[] #[]), (6, .func (.func 38) #[] #[]), (7, .int .i64 (i : Nat))] ∧
    Keeps p M0 M ∧ p < M.size ∧ BAt p M p t ∧ T = t ++ printB 0 (L.drop i)) L.length ?_ ?_)
  · refine ⟨[1, 3, 4, 5, 6, 7], ?_⟩
    simp only [zZ, reduceIte, Nat.reduceLT, Int.reduceToNat, Int.reduceLE, Int.reduceEq, Int.reduceLT, Nat.reduceEqDiff, Nat.reduceAdd, keepF]
    exact ⟨M2, Thin.refl _, 0, hd, by omega, rfl, hk2, by omega, hB2, by rw [hT0]; rfl⟩
  · rintro j f M ⟨i, t, hij, rfl, hk, hs, hb, hTt⟩
    have hsc : M.get m.size = some (.cells false s1 [.int .i64 x0, .int .i64 x1, .int .i64 x2, .int .i64 x3, .slice a L.length ca]) := hk.1 _ _ (by omega) hsc0
    refine CW_seq (CW_seq (CW_region ?_))
    simp only [zZ, reduceIte, Nat.reduceLT, Int.reduceToNat, Int.reduceLE, Int.reduceEq, Int.reduceLT, Nat.reduceEqDiff, Nat.reduceAdd, zTy, hsc]
    refine CW_cond (decide ((i : Int) < (L.length : Int))) (by rfl) (fun h => CW_skip ?_) (fun h => CW_exit ?_)
    · simp only [zZ, reduceIte, Nat.reduceLT, Int.reduceToNat, Int.reduceLE, Int.reduceEq, Int.reduceLT, Nat.reduceEqDiff, Nat.reduceAdd]
      have hil : i < L.length := by have := of_decide_eq_true h; omega
      have g0 : (0 : Int) ≤ (i : Int) := by omega
      have g1 : (i : Int) < (L.length : Int) := by omega
      obtain ⟨ga, ra, hpa, hga⟩ := hA3.at (by omega)
      have hgM : ∀ M', Keeps p M0 M' → M'.get ga = some (.cells ra 7 (LA.flatMap stepC)) := fun M' hk' => hk'.1 _ _ (by have := get_live hga; omega) (hold0 _ _ hga)
      obtain ⟨⟨y, V⟩, hX⟩ : ∃ A, LA[i]? = some A := ⟨_, List.getElem?_eq_getElem (by omega)⟩
      have hXL : L[i]? = some y := by rw [← hA1, List.getElem?_map, hX]; rfl
      have hyL : y ∈ L := List.mem_of_getElem? hXL
      have hyok := hok y hyL
      have hdr : L.drop i = y :: L.drop (i + 1) := drop_get hXL
      have hV := hA2 _ (List.mem_of_getElem? hX)
      simp only at hV
      obtain ⟨va, vc, rfl⟩ := hV.len
      have r1 : rowIn 7 (i * 7) (some (.cells ra 7 (LA.flatMap stepC))) = some (.agg #[.int .i64 y.kind, .int .i64 y.n, .slice va y.files.length vc, .string (str y.text), .bool y.drop, .int .i64 y.delay, .int .i64 y.copies]) := rowIn_at (n := 7) (fun a _ => stepC_len a) hX ra 7
      have ti : ∀ i' : Nat, i' < L.length → IntKind.i64.wrap ((i' : Int) + 1) = ((i' + 1 : Nat) : Int) := fun i' hi => by rw [wr (by omega) (by omega)]; omega
      subst hpa
      refine MW_mid (fun f M' => ∃ (i' : Nat) (t' : List UInt8), f = [(1, .pointer (some ⟨m.size, 0, none⟩)), (3, .pointer (some ⟨p, 0, none⟩)), (4, .func (.func 34) #[] #[.pointer (some ⟨p, 0, none⟩)]), (5, .func (.func 37) #[] #[]), (6, .func (.func 38) #[] #[]), (7, .int .i64 (i' : Nat))] ∧
        i ≤ i' ∧ i' < L.length ∧ Keeps p M0 M' ∧ p < M'.size ∧ BAt p M' p t' ∧ T = t' ++ printB 0 (L.drop (i' + 1))) ?_ ?_
      rotate_left
      · rintro f M' ⟨i', t', rfl, hi1, hi2, hk', hs', hb', hT'⟩
        refine CW_region ?_
        simp only [zZ, reduceIte, Nat.reduceLT, Int.reduceToNat, Int.reduceLE, Int.reduceEq, Int.reduceLT, Nat.reduceEqDiff, Nat.reduceAdd, zTy, ti i' hi2]
        refine ⟨[1, 3, 4, 5, 6, 7], ?_⟩
        simp only [zZ, reduceIte, Nat.reduceLT, Int.reduceToNat, Int.reduceLE, Int.reduceEq, Int.reduceLT, Nat.reduceEqDiff, Nat.reduceAdd, keepF]
        exact ⟨M', Thin.refl _, L.length - (i' + 1), ⟨i' + 1, t', by omega, rfl, hk', hs', hb', hT'⟩, by omega⟩
      · refine CW_block (CW_seq (CW_region ?_))
        simp only [zZ, reduceIte, Nat.reduceLT, Int.reduceToNat, Int.reduceLE, Int.reduceEq, Int.reduceLT, Nat.reduceEqDiff, Nat.reduceAdd, zTy, hsc, g0, g1, and_self, hgM M hk, r1, hal, Mem.get_push_new, push_set]
        obtain ⟨M3, hM3⟩ : ∃ M3, M3 = M.push (.cells false s2 [.int .i64 y.kind, .int .i64 y.n, .slice va y.files.length vc, .string (str y.text), .bool y.drop, .int .i64 y.delay, .int .i64 y.copies]) := ⟨_, rfl⟩
        rw [← hM3]
        have ho3 : ∀ b x, M.get b = some x → M3.get b = some x := fun b x hx => by rw [hM3, Mem.get_push_old (get_live hx)]; exact hx
        have hk3 : Keeps p M0 M3 := hk.trans (by rw [hM3]; exact Keeps.push _ _ _)
        have hs3 : M3.size = M.size + 1 := by rw [hM3, Mem.size_push]
        have hb3 : BAt p M3 p t := bat_keep hb ho3
        have hy3 : M3.get M.size = some (.cells false s2 [.int .i64 y.kind, .int .i64 y.n, .slice va y.files.length vc, .string (str y.text), .bool y.drop, .int .i64 y.delay, .int .i64 y.copies]) := by rw [hM3, Mem.get_push_new]
        have hfin : y.kind ≠ 1 → T = t ++ (stepLine y ++ printB 0 (L.drop (i + 1))) := fun h1 => by rw [hTt, hdr, printB, if_neg h1]
        clear hM3
        refine CW_seq (CW_region ?_)
        simp only [zZ, reduceIte, Nat.reduceLT, Int.reduceToNat, Int.reduceLE, Int.reduceEq, Int.reduceLT, Nat.reduceEqDiff, Nat.reduceAdd, zTy, hy3]
        refine CW_block (CW_seq (CW_region ?_))
        simp only [zZ, reduceIte, Nat.reduceLT, Int.reduceToNat, Int.reduceLE, Int.reduceEq, Int.reduceLT, Nat.reduceEqDiff, Nat.reduceAdd, zTy]
        refine CW_cond (y.kind == 0) (by rfl) (fun h => CW_seq (CW_region ?_)) (fun h => CW_seq (CW_region ?_))
        · simp only [zZ, reduceIte, Nat.reduceLT, Int.reduceToNat, Int.reduceLE, Int.reduceEq, Int.reduceLT, Nat.reduceEqDiff, Nat.reduceAdd, zTy, new_s1]
          have k0 : y.kind = 0 := by simpa using h
          obtain ⟨M5, hM5⟩ : ∃ M5, M5 = M3.push (.cells false 1 [.string ⟨#[112, 97, 99, 107]⟩]) := ⟨_, rfl⟩
          have hold5 : ∀ b x, M3.get b = some x → M5.get b = some x := fun b x hx => by rw [hM5, Mem.get_push_old (get_live hx)]; exact hx
          have hs5 : M5.size = M3.size + 1 := by rw [hM5, Mem.size_push]
          have hg5 : M5.get M3.size = some (.cells false 1 (([[112, 97, 99, 107]] : List (List UInt8)).map fun w => .string (str w))) := by rw [hM5, Mem.get_push_new]; rfl
          have hy5 := hold5 _ _ hy3
          rw [← hM5]
          clear hM5
          refine CW_seq (CW_seq (CW_region ?_))
          simp only [zZ, reduceIte, Nat.reduceLT, Int.reduceToNat, Int.reduceLE, Int.reduceEq, Int.reduceLT, Nat.reduceEqDiff, Nat.reduceAdd, zTy, hy5]
          refine CW_block (MW_loop (fun j f M' => ∃ (tt g : Nat), tt + j = y.files.length ∧ f = [(1, .pointer (some ⟨m.size, 0, none⟩)), (3, .pointer (some ⟨p, 0, none⟩)), (4, .func (.func 34) #[] #[.pointer (some ⟨p, 0, none⟩)]), (5, .func (.func 37) #[] #[]), (6, .func (.func 38) #[] #[]), (7, .int .i64 (i : Nat)),
              (9, .slice (some ⟨g, 0, none⟩) (tt + 1) (tt + 1)), (53, .slice va y.files.length vc), (54, .int .i64 (y.files.length : Nat)), (55, .int .i64 (tt : Nat))] ∧
            (∀ b x, M3.get b = some x → M'.get b = some x) ∧ M3.size ≤ g ∧ M3.size ≤ M'.size ∧ M'.get g = some (.cells false 1 (([112, 97, 99, 107] :: (y.files.take tt).map fileW).map fun w => .string (str w)))) y.files.length ?_ ?_)
          · refine ⟨[1, 3, 4, 5, 6, 7, 9, 53, 54, 55], ?_⟩
            simp only [zZ, reduceIte, Nat.reduceLT, Int.reduceToNat, Int.reduceLE, Int.reduceEq, Int.reduceLT, Nat.reduceEqDiff, Nat.reduceAdd, keepF]
            exact ⟨M5, Thin.refl _, 0, M3.size, by omega, rfl, hold5, Nat.le_refl _, by omega, hg5⟩
          · rintro j f M' ⟨tt, g, htj, rfl, hold', hg1, hms, hg⟩
            have hkM : Keeps p M0 M' := hk3.trans ⟨fun b x _ h => hold' b x h, fun b s cs h => hold' b _ h⟩
            refine CW_seq (CW_region ?_)
            simp only [zZ, reduceIte, Nat.reduceLT, Int.reduceToNat, Int.reduceLE, Int.reduceEq, Int.reduceLT, Nat.reduceEqDiff, Nat.reduceAdd, zTy]
            refine CW_seq (CW_cond (decide ((tt : Int) < (y.files.length : Int))) (by rfl) (fun h => CW_skip ?_) (fun h => CW_exit ?_))
            · simp only [zZ, reduceIte, Nat.reduceLT, Int.reduceToNat, Int.reduceLE, Int.reduceEq, Int.reduceLT, Nat.reduceEqDiff, Nat.reduceAdd]
              have htl : tt < y.files.length := by have := of_decide_eq_true h; omega
              have t0 : (0 : Int) ≤ (tt : Int) := by omega
              have t1 : (tt : Int) < (y.files.length : Int) := by omega
              obtain ⟨gv, rv, hva, hgv⟩ := hV.rd.at (by omega)
              have hgvM : M'.get gv = some (.cells rv 2 (y.files.flatMap fileC)) := hkM.1 _ _ (by have := get_live hgv; omega) (hold0 _ _ hgv)
              obtain ⟨A, hA⟩ : ∃ A, y.files[tt]? = some A := ⟨_, List.getElem?_eq_getElem htl⟩
              have hrow : rowIn 2 (tt * 2) (some (.cells rv 2 (y.files.flatMap fileC))) = some (.agg #[.string (str A.1), .string (str A.2)]) := rowIn_at (n := 2) (fun a _ => fileC_len a) hA rv 2
              have hAok := hyok.file A (List.mem_of_getElem? hA)
              have xi : IntKind.i64.wrap ((tt : Int) + 1) = ((tt + 1 : Nat) : Int) := by
                have := hyok.files
                rw [wr (by omega) (by omega)]; omega
              have hvx1 := hexV_len A.1
              have hvx2 := hexV_len A.2
              subst hva
              refine CW_seq (CW_block (CW_seq (CW_region ?_)))
              simp only [zZ, reduceIte, Nat.reduceLT, Int.reduceToNat, Int.reduceLE, Int.reduceEq, Int.reduceLT, Nat.reduceEqDiff, Nat.reduceAdd, zTy, t0, t1, and_self, hgvM, hrow, halF, Mem.get_push_new, push_set]
              obtain ⟨M6, hM6⟩ : ∃ M6, M6 = M'.push (.cells false s3 [.string (str A.1), .string (str A.2)]) := ⟨_, rfl⟩
              rw [← hM6]
              have hs6 : M6.size = M'.size + 1 := by rw [hM6, Mem.size_push]
              have hf6 : M6.get M'.size = some (.cells false s3 [.string (str A.1), .string (str A.2)]) := by rw [hM6, Mem.get_push_new]
              have hold6 : ∀ b x, M'.get b = some x → M6.get b = some x := fun b x hx => by rw [hM6, Mem.get_push_old (get_live hx)]; exact hx
              clear hM6
              refine CW_draw hmix 10 (by kernel_rfl) (by kernel_rfl) ?_
              simp only [zZ, reduceIte, Nat.reduceLT, Int.reduceToNat, Int.reduceLE, Int.reduceEq, Int.reduceLT, Nat.reduceEqDiff, Nat.reduceAdd, zTy, hf6]
              refine ⟨by kernel_rfl, _, hex_spec (str A.1) (by rw [Go.Proofs.YthcleiegefhmdaaGreatDoor.str_size]; exact hAok.1) _, ?_⟩
              refine ⟨by decide, ?_⟩
              simp only [zZ, reduceIte, Nat.reduceLT, Int.reduceToNat, Int.reduceLE, Int.reduceEq, Int.reduceLT, Nat.reduceEqDiff, Nat.reduceAdd, zTy, hf6, str_data]
              have z1 : ∀ l : List UInt8, bsize (str l) = l.length := fun _ => rfl
              have z2 : bsize (⟨#[58]⟩ : ByteArray) = 1 := rfl
              refine ⟨by rw [z1, z2]; omega, ?_⟩
              rw [show bcat (str (hexV A.1)) ⟨#[58]⟩ = str (hexV A.1 ++ [58]) from rfl]
              refine ⟨by kernel_rfl, _, hex_spec (str A.2) (by rw [Go.Proofs.YthcleiegefhmdaaGreatDoor.str_size]; exact hAok.2) _, ?_⟩
              refine ⟨by decide, ?_⟩
              simp only [zZ, reduceIte, Nat.reduceLT, Int.reduceToNat, Int.reduceLE, Int.reduceEq, Int.reduceLT, Nat.reduceEqDiff, Nat.reduceAdd, zTy, hf6, str_data]
              refine ⟨by rw [z1, z1, List.length_append, List.length_singleton]; omega, ?_⟩
              rw [show bcat (str (hexV A.1 ++ [58])) (str (hexV A.2)) = str (fileW A) from rfl]
              have hg6 := hold6 _ _ hg
              have hgl6 := get_live hg6
              have ha := gapp (N := 1) (k := 1) (n := tt + 1) (cs := ([112, 97, 99, 107] :: (y.files.take tt).map fileW).map fun w => .string (str w)) (news := [.string (str (fileW A))]) Tryz.underlying43 inf_Str Str_zero sz_Str rfl (M6.push (.cells false 1 [.string (str (fileW A))]))
                (src_block (c := 1) (ro := false) (s := 1) Tryz.underlying43 (Mem.get_push_new M6 _) rfl) (by decide) (by rw [Mem.get_push_old hgl6]; exact hg6) (by simp; omega) (by rw [Str_bytes]; have := hyok.files; omega) (by have := hyok.files; omega)
              rw [Mem.size_push] at ha
              simp only [zZ, reduceIte, Nat.reduceLT, Int.reduceToNat, Int.reduceLE, Int.reduceEq, Int.reduceLT, Nat.reduceEqDiff, Nat.reduceAdd, zTy, new_s1, ha]
              refine CW_region ?_
              simp only [zZ, reduceIte, Nat.reduceLT, Int.reduceToNat, Int.reduceLE, Int.reduceEq, Int.reduceLT, Nat.reduceEqDiff, Nat.reduceAdd, zTy, xi]
              refine ⟨[1, 3, 4, 5, 6, 7, 9, 53, 54, 55], ?_⟩
              simp only [zZ, reduceIte, Nat.reduceLT, Int.reduceToNat, Int.reduceLE, Int.reduceEq, Int.reduceLT, Nat.reduceEqDiff, Nat.reduceAdd, keepF]
              refine ⟨_, Thin.refl _, j - 1, ⟨tt + 1, M6.size + 1, by omega, rfl, fun b x hx => ?_, by omega, by simp only [Mem.size_push, Mem.size_set]; omega, ?_⟩, by omega⟩
              · have h1 := hold6 _ _ (hold' b x hx)
                have h2 := get_live hx
                rw [Mem.get_push_old (by rw [Mem.size_set, Mem.size_push]; have := get_live h1; omega), Mem.get_set_ne (by omega), Mem.get_push_old (get_live h1)]; exact h1
              · have := Mem.get_push_new ((M6.push (.cells false 1 [.string (str (fileW A))])).set g none) (.cells false 1 (([112, 97, 99, 107] :: (y.files.take tt).map fileW).map (fun w => .string (str w)) ++ [.string (str (fileW A))]))
                rw [Mem.size_set, Mem.size_push] at this
                rw [this, List.take_add_one, hA]
                simp
            · simp only [zZ, reduceIte, Nat.reduceLT, Int.reduceToNat, Int.reduceLE, Int.reduceEq, Int.reduceLT, Nat.reduceEqDiff, Nat.reduceAdd]
              have htl : tt = y.files.length := by have := of_decide_eq_false h; omega
              subst htl
              rw [List.take_length] at hg
              have e0 : stepLine y = lineL ([112, 97, 99, 107] :: y.files.map fileW) := by unfold stepLine; rw [if_pos k0]
              replace hfin := hfin (by omega)
              refine CW_region ?_
              simp only [zZ, reduceIte, Nat.reduceLT, Int.reduceToNat, Int.reduceLE, Int.reduceEq, Int.reduceLT, Nat.reduceEqDiff, Nat.reduceAdd, zTy]
              have hps := put_spec p p M' t ([112, 97, 99, 107] :: y.files.map fileW) g (y.files.length + 1) false (bat_keep hb3 hold') hg (by simp) (by simp; have := hyok.files; omega) (hlenT _ _ _ (hfin.trans (by rw [e0])))
              rw [List.length_cons, List.length_map] at hps
              refine ⟨by kernel_rfl, _, hps, ?_⟩
              rintro _ M4 ⟨rfl, hb4, hk4, hs4⟩
              simp only [zZ, reduceIte, Nat.reduceLT, Int.reduceToNat, Int.reduceLE, Int.reduceEq, Int.reduceLT, Nat.reduceEqDiff, Nat.reduceAdd, zTy]
              refine ⟨[1, 3, 4, 5, 6, 7], ?_⟩
              simp only [zZ, reduceIte, Nat.reduceLT, Int.reduceToNat, Int.reduceLE, Int.reduceEq, Int.reduceLT, Nat.reduceEqDiff, Nat.reduceAdd, keepF]
              exact ⟨M4, Thin.refl _, i, _, rfl, Nat.le_refl _, hil, hkM.trans hk4, by omega, hb4, by rw [hfin, e0, List.append_assoc]⟩
        have n0 : y.kind ≠ 0 := by simpa using h
        simp only [zZ, reduceIte, Nat.reduceLT, Int.reduceToNat, Int.reduceLE, Int.reduceEq, Int.reduceLT, Nat.reduceEqDiff, Nat.reduceAdd, zTy]
        refine CW_cond (y.kind == 1) (by rfl) (fun h => CW_seq (CW_region ?_)) (fun h => CW_seq (CW_seq (CW_region ?_)))
        · have k1 : y.kind = 1 := by simpa using h
          simp only [zZ, reduceIte, Nat.reduceLT, Int.reduceToNat, Int.reduceLE, Int.reduceEq, Int.reduceLT, Nat.reduceEqDiff, Nat.reduceAdd, zTy]
          refine CW_seq (CW_block (MW_loop (fun j f M' => ∃ (i' n : Nat) (z : StepL), i' + j = L.length ∧ f = [(1, .pointer (some ⟨m.size, 0, none⟩)), (3, .pointer (some ⟨p, 0, none⟩)), (4, .func (.func 34) #[] #[.pointer (some ⟨p, 0, none⟩)]), (5, .func (.func 37) #[] #[]), (6, .func (.func 38) #[] #[]), (7, .int .i64 (i' : Nat)), (12, .int .i64 ((n + 1 : Nat) : Int))] ∧
            M' = M3 ∧ i ≤ i' ∧ i' < L.length ∧ n + 1 ≤ 1000 ∧ L[i']? = some z ∧ z.kind = 1 ∧ T = t ++ printB n (L.drop i')) (L.length - i) ?_ ?_))
          · refine ⟨[1, 3, 4, 5, 6, 7, 12], ?_⟩
            simp only [zZ, reduceIte, Nat.reduceLT, Int.reduceToNat, Int.reduceLE, Int.reduceEq, Int.reduceLT, Nat.reduceEqDiff, Nat.reduceAdd, keepF]
            exact ⟨M3, Thin.refl _, i, 0, y, by omega, rfl, rfl, Nat.le_refl _, hil, by decide, hXL, k1, hTt⟩
          · rintro j f M' ⟨i', n, z, hij', rfl, rfl, hi1, hi2, hn, hz, hzk, hTz⟩
            have hgz := hgM M' hk3
            have hscz : M'.get m.size = some (.cells false s1 [.int .i64 x0, .int .i64 x1, .int .i64 x2, .int .i64 x3, .slice (some ⟨ga, 0, none⟩) L.length ca]) := ho3 _ _ hsc
            have hdz : L.drop i' = z :: L.drop (i' + 1) := drop_get hz
            have hn1 : IntKind.i64.wrap (((n + 1 : Nat) : Int) + 1) = ((n + 1 + 1 : Nat) : Int) := by rw [wr (by omega) (by omega)]; omega
            have stop : ¬ (tickNext (L.drop (i' + 1)) = true ∧ n + 1 < 1000) → T = t ++ (lineL [[116, 105, 99, 107], Lib.itoa ((n + 1 : Nat) : Int)] ++ printB 0 (L.drop (i' + 1))) := fun hno => by rw [hTz, hdz, printB, if_pos hzk, if_neg hno]
            have goon : (tickNext (L.drop (i' + 1)) = true ∧ n + 1 < 1000) → T = t ++ printB (n + 1) (L.drop (i' + 1)) := fun hno => by rw [hTz, hdz, printB, if_pos hzk, if_pos hno]
            refine CW_seq (CW_seq (CW_region ?_))
            by_cases q1 : i' + 1 < L.length
            · obtain ⟨⟨z2, V2⟩, hX2⟩ : ∃ A, LA[i' + 1]? = some A := ⟨_, List.getElem?_eq_getElem (by omega)⟩
              have hz2 : L[i' + 1]? = some z2 := by rw [← hA1, List.getElem?_map, hX2]; rfl
              have cz : (LA.flatMap stepC)[(i' + 1) * 7]? = some (.int .i64 z2.kind) := flatMap_get (fun a _ => stepC_len a) hX2 (o := 0) (by decide)
              have hd2 : L.drop (i' + 1) = z2 :: L.drop (i' + 1 + 1) := drop_get hz2
              have d1 : decide (((i' + 1 : Nat) : Int) < (L.length : Int)) = true := decide_eq_true (by omega)
              have u0 : (0 : Int) ≤ ((i' + 1 : Nat) : Int) := by omega
              have u1 : ((i' + 1 : Nat) : Int) < (L.length : Int) := by omega
              have hi2L := ti i' hi2
              by_cases q2 : z2.kind = 1
              · have d2 : (z2.kind == 1) = true := by rw [q2]; rfl
                by_cases q3 : n + 1 < 1000
                · have d3 : decide (((n + 1 : Nat) : Int) < 1000) = true := decide_eq_true (by omega)
                  simp only [zZ, reduceIte, Nat.reduceLT, Int.reduceToNat, Int.reduceLE, Int.reduceEq, Int.reduceLT, Nat.reduceEqDiff, Nat.reduceAdd, zTy, hscz, hi2L, d1, u0, u1, and_self, decide_true, hgz, cz, d2, d3]
                  refine CW_cond true (by rfl) (fun _ => CW_skip ?_) (fun h => by cases h)
                  simp only [zZ, reduceIte, Nat.reduceLT, Int.reduceToNat, Int.reduceLE, Int.reduceEq, Int.reduceLT, Nat.reduceEqDiff, Nat.reduceAdd]
                  refine CW_block (CW_region ?_)
                  simp only [zZ, reduceIte, Nat.reduceLT, Int.reduceToNat, Int.reduceLE, Int.reduceEq, Int.reduceLT, Nat.reduceEqDiff, Nat.reduceAdd, zTy, hi2L, hn1]
                  refine ⟨[1, 3, 4, 5, 6, 7, 12], ?_⟩
                  simp only [zZ, reduceIte, Nat.reduceLT, Int.reduceToNat, Int.reduceLE, Int.reduceEq, Int.reduceLT, Nat.reduceEqDiff, Nat.reduceAdd, keepF]
                  exact ⟨M', Thin.refl _, j - 1, ⟨i' + 1, n + 1, z2, by omega, rfl, rfl, by omega, q1, by omega, hz2, q2, goon ⟨by rw [hd2]; exact decide_eq_true q2, q3⟩⟩, by omega⟩
                · have d3 : decide (((n + 1 : Nat) : Int) < 1000) = false := decide_eq_false (by omega)
                  simp only [zZ, reduceIte, Nat.reduceLT, Int.reduceToNat, Int.reduceLE, Int.reduceEq, Int.reduceLT, Nat.reduceEqDiff, Nat.reduceAdd, zTy, hscz, hi2L, d1, u0, u1, and_self, decide_true, hgz, cz, d2, d3]
                  refine CW_cond false (by rfl) (fun h => by cases h) (fun _ => CW_exit ?_)
                  simp only [zZ, reduceIte, Nat.reduceLT, Int.reduceToNat, Int.reduceLE, Int.reduceEq, Int.reduceLT, Nat.reduceEqDiff, Nat.reduceAdd]
                  replace stop := stop (by exact fun h => q3 h.2)
                  refine CW_region ?_
                  simp only [zZ, reduceIte, Nat.reduceLT, Int.reduceToNat, Int.reduceLE, Int.reduceEq, Int.reduceLT, Nat.reduceEqDiff, Nat.reduceAdd, zTy]
                  refine ⟨by kernel_rfl, _, itoa_spec ((n + 1 : Nat) : Int) (by omega) (by omega) _, ?_⟩
                  rintro _ M5 ⟨rfl, e5⟩
                  replace e5 := e5.symm
                  subst e5
                  simp only [zZ, reduceIte, Nat.reduceLT, Int.reduceToNat, Int.reduceLE, Int.reduceEq, Int.reduceLT, Nat.reduceEqDiff, Nat.reduceAdd, zTy, new_s2]
                  refine ⟨by kernel_rfl, _, put_new p p M' t [[116, 105, 99, 107], Lib.itoa ((n + 1 : Nat) : Int)] hb3 (by simp) (by simp) (hlenT _ _ _ stop), ?_⟩
                  rintro _ M4 ⟨rfl, hb4, hk4, hs4⟩
                  simp only [zZ, reduceIte, Nat.reduceLT, Int.reduceToNat, Int.reduceLE, Int.reduceEq, Int.reduceLT, Nat.reduceEqDiff, Nat.reduceAdd, zTy]
                  refine ⟨[1, 3, 4, 5, 6, 7], ?_⟩
                  simp only [zZ, reduceIte, Nat.reduceLT, Int.reduceToNat, Int.reduceLE, Int.reduceEq, Int.reduceLT, Nat.reduceEqDiff, Nat.reduceAdd, keepF]
                  exact ⟨M4, Thin.refl _, i', _, rfl, hi1, hi2, hk3.trans hk4, by omega, hb4, by rw [stop, List.append_assoc]⟩
              · have d2 : (z2.kind == 1) = false := by simpa using q2
                simp only [zZ, reduceIte, Nat.reduceLT, Int.reduceToNat, Int.reduceLE, Int.reduceEq, Int.reduceLT, Nat.reduceEqDiff, Nat.reduceAdd, zTy, hscz, hi2L, d1, u0, u1, and_self, decide_true, hgz, cz, d2]
                refine CW_cond false (by rfl) (fun h => by cases h) (fun _ => CW_exit ?_)
                simp only [zZ, reduceIte, Nat.reduceLT, Int.reduceToNat, Int.reduceLE, Int.reduceEq, Int.reduceLT, Nat.reduceEqDiff, Nat.reduceAdd]
                replace stop := stop (by rw [hd2]; exact fun h => q2 (of_decide_eq_true h.1))
                refine CW_region ?_
                simp only [zZ, reduceIte, Nat.reduceLT, Int.reduceToNat, Int.reduceLE, Int.reduceEq, Int.reduceLT, Nat.reduceEqDiff, Nat.reduceAdd, zTy]
                refine ⟨by kernel_rfl, _, itoa_spec ((n + 1 : Nat) : Int) (by omega) (by omega) _, ?_⟩
                rintro _ M5 ⟨rfl, e5⟩
                replace e5 := e5.symm
                subst e5
                simp only [zZ, reduceIte, Nat.reduceLT, Int.reduceToNat, Int.reduceLE, Int.reduceEq, Int.reduceLT, Nat.reduceEqDiff, Nat.reduceAdd, zTy, new_s2]
                refine ⟨by kernel_rfl, _, put_new p p M' t [[116, 105, 99, 107], Lib.itoa ((n + 1 : Nat) : Int)] hb3 (by simp) (by simp) (hlenT _ _ _ stop), ?_⟩
                rintro _ M4 ⟨rfl, hb4, hk4, hs4⟩
                simp only [zZ, reduceIte, Nat.reduceLT, Int.reduceToNat, Int.reduceLE, Int.reduceEq, Int.reduceLT, Nat.reduceEqDiff, Nat.reduceAdd, zTy]
                refine ⟨[1, 3, 4, 5, 6, 7], ?_⟩
                simp only [zZ, reduceIte, Nat.reduceLT, Int.reduceToNat, Int.reduceLE, Int.reduceEq, Int.reduceLT, Nat.reduceEqDiff, Nat.reduceAdd, keepF]
                exact ⟨M4, Thin.refl _, i', _, rfl, hi1, hi2, hk3.trans hk4, by omega, hb4, by rw [stop, List.append_assoc]⟩
            · have d1 : decide (((i' + 1 : Nat) : Int) < (L.length : Int)) = false := decide_eq_false (by omega)
              simp only [zZ, reduceIte, Nat.reduceLT, Int.reduceToNat, Int.reduceLE, Int.reduceEq, Int.reduceLT, Nat.reduceEqDiff, Nat.reduceAdd, zTy, hscz, ti i' hi2, d1]
              refine CW_cond false (by rfl) (fun h => by cases h) (fun _ => CW_exit ?_)
              simp only [zZ, reduceIte, Nat.reduceLT, Int.reduceToNat, Int.reduceLE, Int.reduceEq, Int.reduceLT, Nat.reduceEqDiff, Nat.reduceAdd]
              replace stop := stop (by rw [List.drop_eq_nil_of_le (by omega)]; exact fun h => by cases h.1)
              refine CW_region ?_
              simp only [zZ, reduceIte, Nat.reduceLT, Int.reduceToNat, Int.reduceLE, Int.reduceEq, Int.reduceLT, Nat.reduceEqDiff, Nat.reduceAdd, zTy]
              refine ⟨by kernel_rfl, _, itoa_spec ((n + 1 : Nat) : Int) (by omega) (by omega) _, ?_⟩
              rintro _ M5 ⟨rfl, e5⟩
              replace e5 := e5.symm
              subst e5
              simp only [zZ, reduceIte, Nat.reduceLT, Int.reduceToNat, Int.reduceLE, Int.reduceEq, Int.reduceLT, Nat.reduceEqDiff, Nat.reduceAdd, zTy, new_s2]
              refine ⟨by kernel_rfl, _, put_new p p M' t [[116, 105, 99, 107], Lib.itoa ((n + 1 : Nat) : Int)] hb3 (by simp) (by simp) (hlenT _ _ _ stop), ?_⟩
              rintro _ M4 ⟨rfl, hb4, hk4, hs4⟩
              simp only [zZ, reduceIte, Nat.reduceLT, Int.reduceToNat, Int.reduceLE, Int.reduceEq, Int.reduceLT, Nat.reduceEqDiff, Nat.reduceAdd, zTy]
              refine ⟨[1, 3, 4, 5, 6, 7], ?_⟩
              simp only [zZ, reduceIte, Nat.reduceLT, Int.reduceToNat, Int.reduceLE, Int.reduceEq, Int.reduceLT, Nat.reduceEqDiff, Nat.reduceAdd, keepF]
              exact ⟨M4, Thin.refl _, i', _, rfl, hi1, hi2, hk3.trans hk4, by omega, hb4, by rw [stop, List.append_assoc]⟩
        have n1 : y.kind ≠ 1 := by simpa using h
        replace hfin := hfin n1
        have e23 : (y.kind = 2 ∨ y.kind = 3) → stepLine y = lineL [[102, 117, 115, 101], sideL (3 - y.kind), Lib.itoa y.n] := fun h => by unfold stepLine; rw [if_neg n0, if_pos h]
        simp only [zZ, reduceIte, Nat.reduceLT, Int.reduceToNat, Int.reduceLE, Int.reduceEq, Int.reduceLT, Nat.reduceEqDiff, Nat.reduceAdd, zTy]
        refine CW_cond (y.kind == 2) (by rfl) (fun h => CW_skip ?_) (fun h => CW_region ?_)
        · have k2 : y.kind = 2 := by simpa using h
          simp only [zZ, reduceIte, Nat.reduceLT, Int.reduceToNat, Int.reduceLE, Int.reduceEq, Int.reduceLT, Nat.reduceEqDiff, Nat.reduceAdd]
          refine CW_cond (y.kind == 2) (by rfl) (fun _ => ?_) (fun h => absurd k2 (by simpa using h))
          have w35 : IntKind.i64.wrap (3 - y.kind) = 3 - y.kind := wrs (by omega) (by omega)
          refine CW_draw hmix 11 (by kernel_rfl) (by kernel_rfl) ?_
          simp only [zZ, reduceIte, Nat.reduceLT, Int.reduceToNat, Int.reduceLE, Int.reduceEq, Int.reduceLT, Nat.reduceEqDiff, Nat.reduceAdd, zTy, hy3, w35]
          refine ⟨by kernel_rfl, _, sides_spec (3 - y.kind) (by omega) _, ?_⟩
          refine ⟨by decide, ?_⟩
          simp only [zZ, reduceIte, Nat.reduceLT, Int.reduceToNat, Int.reduceLE, Int.reduceEq, Int.reduceLT, Nat.reduceEqDiff, Nat.reduceAdd, zTy, hy3, w35]
          refine ⟨by kernel_rfl, _, itoa_spec y.n hyok.n.1 hyok.n.2 _, ?_⟩
          refine ⟨by decide, ?_⟩
          simp only [zZ, reduceIte, Nat.reduceLT, Int.reduceToNat, Int.reduceLE, Int.reduceEq, Int.reduceLT, Nat.reduceEqDiff, Nat.reduceAdd, zTy, hy3, w35, new_s3]
          refine ⟨by kernel_rfl, _, put_new p p M3 t [[102, 117, 115, 101], sideL (3 - y.kind), Lib.itoa y.n] hb3 (by simp) (by simp) (hlenT _ _ _ (hfin.trans (by rw [e23 (.inl k2)]))), ?_⟩
          rintro _ M4 ⟨rfl, hb4, hk4, hs4⟩
          simp only [zZ, reduceIte, Nat.reduceLT, Int.reduceToNat, Int.reduceLE, Int.reduceEq, Int.reduceLT, Nat.reduceEqDiff, Nat.reduceAdd, zTy]
          refine ⟨[1, 3, 4, 5, 6, 7], ?_⟩
          simp only [zZ, reduceIte, Nat.reduceLT, Int.reduceToNat, Int.reduceLE, Int.reduceEq, Int.reduceLT, Nat.reduceEqDiff, Nat.reduceAdd, keepF]
          exact ⟨M4, Thin.refl _, i, _, rfl, Nat.le_refl _, hil, hk3.trans hk4, by omega, hb4, by rw [hfin, e23 (.inl k2), List.append_assoc]⟩
        have n2 : y.kind ≠ 2 := by simpa using h
        simp only [zZ, reduceIte, Nat.reduceLT, Int.reduceToNat, Int.reduceLE, Int.reduceEq, Int.reduceLT, Nat.reduceEqDiff, Nat.reduceAdd, zTy]
        refine CW_cond (y.kind == 3) (by rfl) (fun h => ?_) (fun h => CW_seq (CW_seq (CW_region ?_)))
        · have k3 : y.kind = 3 := by simpa using h
          have w35 : IntKind.i64.wrap (3 - y.kind) = 3 - y.kind := wrs (by omega) (by omega)
          refine CW_draw hmix 11 (by kernel_rfl) (by kernel_rfl) ?_
          simp only [zZ, reduceIte, Nat.reduceLT, Int.reduceToNat, Int.reduceLE, Int.reduceEq, Int.reduceLT, Nat.reduceEqDiff, Nat.reduceAdd, zTy, hy3, w35]
          refine ⟨by kernel_rfl, _, sides_spec (3 - y.kind) (by omega) _, ?_⟩
          refine ⟨by decide, ?_⟩
          simp only [zZ, reduceIte, Nat.reduceLT, Int.reduceToNat, Int.reduceLE, Int.reduceEq, Int.reduceLT, Nat.reduceEqDiff, Nat.reduceAdd, zTy, hy3, w35]
          refine ⟨by kernel_rfl, _, itoa_spec y.n hyok.n.1 hyok.n.2 _, ?_⟩
          refine ⟨by decide, ?_⟩
          simp only [zZ, reduceIte, Nat.reduceLT, Int.reduceToNat, Int.reduceLE, Int.reduceEq, Int.reduceLT, Nat.reduceEqDiff, Nat.reduceAdd, zTy, hy3, w35, new_s3]
          refine ⟨by kernel_rfl, _, put_new p p M3 t [[102, 117, 115, 101], sideL (3 - y.kind), Lib.itoa y.n] hb3 (by simp) (by simp) (hlenT _ _ _ (hfin.trans (by rw [e23 (.inr k3)]))), ?_⟩
          rintro _ M4 ⟨rfl, hb4, hk4, hs4⟩
          simp only [zZ, reduceIte, Nat.reduceLT, Int.reduceToNat, Int.reduceLE, Int.reduceEq, Int.reduceLT, Nat.reduceEqDiff, Nat.reduceAdd, zTy]
          refine ⟨[1, 3, 4, 5, 6, 7], ?_⟩
          simp only [zZ, reduceIte, Nat.reduceLT, Int.reduceToNat, Int.reduceLE, Int.reduceEq, Int.reduceLT, Nat.reduceEqDiff, Nat.reduceAdd, keepF]
          exact ⟨M4, Thin.refl _, i, _, rfl, Nat.le_refl _, hil, hk3.trans hk4, by omega, hb4, by rw [hfin, e23 (.inr k3), List.append_assoc]⟩
        have n3 : y.kind ≠ 3 := by simpa using h
        have e45 : (y.kind = 4 ∨ y.kind = 5) → stepLine y = lineL [[99, 114, 97, 115, 104], sideL (5 - y.kind), Lib.itoa y.n] := fun h => by unfold stepLine; rw [if_neg n0, if_neg (by omega), if_pos h]
        simp only [zZ, reduceIte, Nat.reduceLT, Int.reduceToNat, Int.reduceLE, Int.reduceEq, Int.reduceLT, Nat.reduceEqDiff, Nat.reduceAdd, zTy]
        refine CW_cond (y.kind == 4) (by rfl) (fun h => CW_skip ?_) (fun h => CW_region ?_)
        · have k2 : y.kind = 4 := by simpa using h
          simp only [zZ, reduceIte, Nat.reduceLT, Int.reduceToNat, Int.reduceLE, Int.reduceEq, Int.reduceLT, Nat.reduceEqDiff, Nat.reduceAdd]
          refine CW_cond (y.kind == 4) (by rfl) (fun _ => ?_) (fun h => absurd k2 (by simpa using h))
          have w35 : IntKind.i64.wrap (5 - y.kind) = 5 - y.kind := wrs (by omega) (by omega)
          refine CW_draw hmix 11 (by kernel_rfl) (by kernel_rfl) ?_
          simp only [zZ, reduceIte, Nat.reduceLT, Int.reduceToNat, Int.reduceLE, Int.reduceEq, Int.reduceLT, Nat.reduceEqDiff, Nat.reduceAdd, zTy, hy3, w35]
          refine ⟨by kernel_rfl, _, sides_spec (5 - y.kind) (by omega) _, ?_⟩
          refine ⟨by decide, ?_⟩
          simp only [zZ, reduceIte, Nat.reduceLT, Int.reduceToNat, Int.reduceLE, Int.reduceEq, Int.reduceLT, Nat.reduceEqDiff, Nat.reduceAdd, zTy, hy3, w35]
          refine ⟨by kernel_rfl, _, itoa_spec y.n hyok.n.1 hyok.n.2 _, ?_⟩
          refine ⟨by decide, ?_⟩
          simp only [zZ, reduceIte, Nat.reduceLT, Int.reduceToNat, Int.reduceLE, Int.reduceEq, Int.reduceLT, Nat.reduceEqDiff, Nat.reduceAdd, zTy, hy3, w35, new_s3]
          refine ⟨by kernel_rfl, _, put_new p p M3 t [[99, 114, 97, 115, 104], sideL (5 - y.kind), Lib.itoa y.n] hb3 (by simp) (by simp) (hlenT _ _ _ (hfin.trans (by rw [e45 (.inl k2)]))), ?_⟩
          rintro _ M4 ⟨rfl, hb4, hk4, hs4⟩
          simp only [zZ, reduceIte, Nat.reduceLT, Int.reduceToNat, Int.reduceLE, Int.reduceEq, Int.reduceLT, Nat.reduceEqDiff, Nat.reduceAdd, zTy]
          refine ⟨[1, 3, 4, 5, 6, 7], ?_⟩
          simp only [zZ, reduceIte, Nat.reduceLT, Int.reduceToNat, Int.reduceLE, Int.reduceEq, Int.reduceLT, Nat.reduceEqDiff, Nat.reduceAdd, keepF]
          exact ⟨M4, Thin.refl _, i, _, rfl, Nat.le_refl _, hil, hk3.trans hk4, by omega, hb4, by rw [hfin, e45 (.inl k2), List.append_assoc]⟩
        have n4 : y.kind ≠ 4 := by simpa using h
        simp only [zZ, reduceIte, Nat.reduceLT, Int.reduceToNat, Int.reduceLE, Int.reduceEq, Int.reduceLT, Nat.reduceEqDiff, Nat.reduceAdd, zTy]
        refine CW_cond (y.kind == 5) (by rfl) (fun h => ?_) (fun h => CW_seq (CW_region ?_))
        · have k3 : y.kind = 5 := by simpa using h
          have w35 : IntKind.i64.wrap (5 - y.kind) = 5 - y.kind := wrs (by omega) (by omega)
          refine CW_draw hmix 11 (by kernel_rfl) (by kernel_rfl) ?_
          simp only [zZ, reduceIte, Nat.reduceLT, Int.reduceToNat, Int.reduceLE, Int.reduceEq, Int.reduceLT, Nat.reduceEqDiff, Nat.reduceAdd, zTy, hy3, w35]
          refine ⟨by kernel_rfl, _, sides_spec (5 - y.kind) (by omega) _, ?_⟩
          refine ⟨by decide, ?_⟩
          simp only [zZ, reduceIte, Nat.reduceLT, Int.reduceToNat, Int.reduceLE, Int.reduceEq, Int.reduceLT, Nat.reduceEqDiff, Nat.reduceAdd, zTy, hy3, w35]
          refine ⟨by kernel_rfl, _, itoa_spec y.n hyok.n.1 hyok.n.2 _, ?_⟩
          refine ⟨by decide, ?_⟩
          simp only [zZ, reduceIte, Nat.reduceLT, Int.reduceToNat, Int.reduceLE, Int.reduceEq, Int.reduceLT, Nat.reduceEqDiff, Nat.reduceAdd, zTy, hy3, w35, new_s3]
          refine ⟨by kernel_rfl, _, put_new p p M3 t [[99, 114, 97, 115, 104], sideL (5 - y.kind), Lib.itoa y.n] hb3 (by simp) (by simp) (hlenT _ _ _ (hfin.trans (by rw [e45 (.inr k3)]))), ?_⟩
          rintro _ M4 ⟨rfl, hb4, hk4, hs4⟩
          simp only [zZ, reduceIte, Nat.reduceLT, Int.reduceToNat, Int.reduceLE, Int.reduceEq, Int.reduceLT, Nat.reduceEqDiff, Nat.reduceAdd, zTy]
          refine ⟨[1, 3, 4, 5, 6, 7], ?_⟩
          simp only [zZ, reduceIte, Nat.reduceLT, Int.reduceToNat, Int.reduceLE, Int.reduceEq, Int.reduceLT, Nat.reduceEqDiff, Nat.reduceAdd, keepF]
          exact ⟨M4, Thin.refl _, i, _, rfl, Nat.le_refl _, hil, hk3.trans hk4, by omega, hb4, by rw [hfin, e45 (.inr k3), List.append_assoc]⟩
        have n5 : y.kind ≠ 5 := by simpa using h
        simp only [zZ, reduceIte, Nat.reduceLT, Int.reduceToNat, Int.reduceLE, Int.reduceEq, Int.reduceLT, Nat.reduceEqDiff, Nat.reduceAdd, zTy]
        refine CW_cond (y.kind == 6) (by rfl) (fun h => ?_) (fun h => CW_seq (CW_region ?_))
        · have k3 : y.kind = 6 := by simpa using h
          have e6 : stepLine y = lineL [[105, 110, 106, 101, 99, 116], sideL (bits BinOp.and IntKind.i64 y.n 1), hexV y.text, Lib.itoa y.delay] := by unfold stepLine; rw [if_neg n0, if_neg (by omega), if_neg (by omega), if_pos k3]
          refine CW_draw hmix 15 (by kernel_rfl) (by kernel_rfl) ?_
          simp only [zZ, reduceIte, Nat.reduceLT, Int.reduceToNat, Int.reduceLE, Int.reduceEq, Int.reduceLT, Nat.reduceEqDiff, Nat.reduceAdd, zTy, hy3]
          refine ⟨by kernel_rfl, _, sides_spec (bits BinOp.and IntKind.i64 y.n 1) (bit_one y.n hyok.n) _, ?_⟩
          refine ⟨by decide, ?_⟩
          simp only [zZ, reduceIte, Nat.reduceLT, Int.reduceToNat, Int.reduceLE, Int.reduceEq, Int.reduceLT, Nat.reduceEqDiff, Nat.reduceAdd, zTy, hy3]
          refine ⟨by kernel_rfl, _, hex_spec (str y.text) (by rw [Go.Proofs.YthcleiegefhmdaaGreatDoor.str_size]; exact hyok.text) _, ?_⟩
          refine ⟨by decide, ?_⟩
          simp only [zZ, reduceIte, Nat.reduceLT, Int.reduceToNat, Int.reduceLE, Int.reduceEq, Int.reduceLT, Nat.reduceEqDiff, Nat.reduceAdd, zTy, hy3]
          refine ⟨by kernel_rfl, _, itoa_spec y.delay hyok.delay.1 hyok.delay.2 _, ?_⟩
          refine ⟨by decide, ?_⟩
          simp only [zZ, reduceIte, Nat.reduceLT, Int.reduceToNat, Int.reduceLE, Int.reduceEq, Int.reduceLT, Nat.reduceEqDiff, Nat.reduceAdd, zTy, hy3, str_data, new_s4]
          refine ⟨by kernel_rfl, _, put_new p p M3 t [[105, 110, 106, 101, 99, 116], sideL (bits BinOp.and IntKind.i64 y.n 1), hexV y.text, Lib.itoa y.delay] hb3 (by simp) (by simp) (hlenT _ _ _ (hfin.trans (by rw [e6]))), ?_⟩
          rintro _ M4 ⟨rfl, hb4, hk4, hs4⟩
          simp only [zZ, reduceIte, Nat.reduceLT, Int.reduceToNat, Int.reduceLE, Int.reduceEq, Int.reduceLT, Nat.reduceEqDiff, Nat.reduceAdd, zTy]
          refine ⟨[1, 3, 4, 5, 6, 7], ?_⟩
          simp only [zZ, reduceIte, Nat.reduceLT, Int.reduceToNat, Int.reduceLE, Int.reduceEq, Int.reduceLT, Nat.reduceEqDiff, Nat.reduceAdd, keepF]
          exact ⟨M4, Thin.refl _, i, _, rfl, Nat.le_refl _, hil, hk3.trans hk4, by omega, hb4, by rw [hfin, e6, List.append_assoc]⟩
        have n6 : y.kind ≠ 6 := by simpa using h
        simp only [zZ, reduceIte, Nat.reduceLT, Int.reduceToNat, Int.reduceLE, Int.reduceEq, Int.reduceLT, Nat.reduceEqDiff, Nat.reduceAdd, zTy]
        refine CW_cond (y.kind == 7) (by rfl) (fun h => CW_seq (CW_region ?_)) (fun h => CW_skip ?_)
        · have k7 : y.kind = 7 := by simpa using h
          simp only [zZ, reduceIte, Nat.reduceLT, Int.reduceToNat, Int.reduceLE, Int.reduceEq, Int.reduceLT, Nat.reduceEqDiff, Nat.reduceAdd, zTy, hy3]
          refine CW_cond y.drop (by rfl) (fun h => CW_region ?_) (fun h => ?_)
          · have e7 : stepLine y = lineL [[102, 97, 116, 101], [100, 114, 111, 112]] := by unfold stepLine; rw [if_neg n0, if_neg (by omega), if_neg (by omega), if_neg n6, if_pos k7, if_pos h]
            simp only [zZ, reduceIte, Nat.reduceLT, Int.reduceToNat, Int.reduceLE, Int.reduceEq, Int.reduceLT, Nat.reduceEqDiff, Nat.reduceAdd, zTy, new_s2]
            refine ⟨by kernel_rfl, _, put_new p p M3 t [[102, 97, 116, 101], [100, 114, 111, 112]] hb3 (by simp) (by simp) (hlenT _ _ _ (hfin.trans (by rw [e7]))), ?_⟩
            rintro _ M4 ⟨rfl, hb4, hk4, hs4⟩
            simp only [zZ, reduceIte, Nat.reduceLT, Int.reduceToNat, Int.reduceLE, Int.reduceEq, Int.reduceLT, Nat.reduceEqDiff, Nat.reduceAdd, zTy]
            refine ⟨[1, 3, 4, 5, 6, 7], ?_⟩
            simp only [zZ, reduceIte, Nat.reduceLT, Int.reduceToNat, Int.reduceLE, Int.reduceEq, Int.reduceLT, Nat.reduceEqDiff, Nat.reduceAdd, keepF]
            exact ⟨M4, Thin.refl _, i, _, rfl, Nat.le_refl _, hil, hk3.trans hk4, by omega, hb4, by rw [hfin, e7, List.append_assoc]⟩
          · have e7 : stepLine y = lineL [[102, 97, 116, 101], Lib.itoa y.delay, Lib.itoa y.copies] := by unfold stepLine; rw [if_neg n0, if_neg (by omega), if_neg (by omega), if_neg n6, if_pos k7, if_neg (by rw [h]; decide)]
            refine CW_draw hmix 12 (by kernel_rfl) (by kernel_rfl) ?_
            simp only [zZ, reduceIte, Nat.reduceLT, Int.reduceToNat, Int.reduceLE, Int.reduceEq, Int.reduceLT, Nat.reduceEqDiff, Nat.reduceAdd, zTy, hy3]
            refine ⟨by kernel_rfl, _, itoa_spec y.delay hyok.delay.1 hyok.delay.2 _, ?_⟩
            refine ⟨by decide, ?_⟩
            simp only [zZ, reduceIte, Nat.reduceLT, Int.reduceToNat, Int.reduceLE, Int.reduceEq, Int.reduceLT, Nat.reduceEqDiff, Nat.reduceAdd, zTy, hy3]
            refine ⟨by kernel_rfl, _, itoa_spec y.copies hyok.copies.1 hyok.copies.2 _, ?_⟩
            refine ⟨by decide, ?_⟩
            simp only [zZ, reduceIte, Nat.reduceLT, Int.reduceToNat, Int.reduceLE, Int.reduceEq, Int.reduceLT, Nat.reduceEqDiff, Nat.reduceAdd, zTy, hy3, new_s3]
            refine ⟨by kernel_rfl, _, put_new p p M3 t [[102, 97, 116, 101], Lib.itoa y.delay, Lib.itoa y.copies] hb3 (by simp) (by simp) (hlenT _ _ _ (hfin.trans (by rw [e7]))), ?_⟩
            rintro _ M4 ⟨rfl, hb4, hk4, hs4⟩
            simp only [zZ, reduceIte, Nat.reduceLT, Int.reduceToNat, Int.reduceLE, Int.reduceEq, Int.reduceLT, Nat.reduceEqDiff, Nat.reduceAdd, zTy]
            refine ⟨[1, 3, 4, 5, 6, 7], ?_⟩
            simp only [zZ, reduceIte, Nat.reduceLT, Int.reduceToNat, Int.reduceLE, Int.reduceEq, Int.reduceLT, Nat.reduceEqDiff, Nat.reduceAdd, keepF]
            exact ⟨M4, Thin.refl _, i, _, rfl, Nat.le_refl _, hil, hk3.trans hk4, by omega, hb4, by rw [hfin, e7, List.append_assoc]⟩
        have n7 : y.kind ≠ 7 := by simpa using h
        have e8 : stepLine y = [] := by unfold stepLine; rw [if_neg n0, if_neg (by omega), if_neg (by omega), if_neg n6, if_neg n7]
        simp only [zZ, reduceIte, Nat.reduceLT, Int.reduceToNat, Int.reduceLE, Int.reduceEq, Int.reduceLT, Nat.reduceEqDiff, Nat.reduceAdd, zTy]
        refine ⟨[1, 3, 4, 5, 6, 7], ?_⟩
        simp only [zZ, reduceIte, Nat.reduceLT, Int.reduceToNat, Int.reduceLE, Int.reduceEq, Int.reduceLT, Nat.reduceEqDiff, Nat.reduceAdd, keepF]
        exact ⟨M3, Thin.refl _, i, t, rfl, Nat.le_refl _, hil, hk3, by omega, hb3, by rw [hfin, e8, List.nil_append]⟩
    · simp only [zZ, reduceIte, Nat.reduceLT, Int.reduceToNat, Int.reduceLE, Int.reduceEq, Int.reduceLT, Nat.reduceEqDiff, Nat.reduceAdd]
      have hil : i = L.length := by have := of_decide_eq_false h; omega
      subst hil
      refine CW_seq (CW_region ?_)
      simp only [zZ, reduceIte, Nat.reduceLT, Int.reduceToNat, Int.reduceLE, Int.reduceEq, Int.reduceLT, Nat.reduceEqDiff, Nat.reduceAdd, zTy]
      refine ⟨by kernel_rfl, _, bstr_spec p p M t hb, ?_⟩
      rintro _ M3 ⟨rfl, hk3⟩
      simp only [zZ, reduceIte, Nat.reduceLT, Int.reduceToNat, Int.reduceLE, Int.reduceEq, Int.reduceLT, Nat.reduceEqDiff, Nat.reduceAdd, zTy]
      refine CW_ret ?_
      simp only [zZ, reduceIte, Nat.reduceLT, Int.reduceToNat, Int.reduceLE, Int.reduceEq, Int.reduceLT, Nat.reduceEqDiff, Nat.reduceAdd, zTy, mEnd, sAnswer, sAnswer.sRes]
      have hTe2 : T = t := by rw [hTt, List.drop_length]; simp [printB]
      rw [hTe2]
      exact ⟨M3, Thin.refl _, rfl, fun b y _ hy => hk3.1 b y (by have := get_live hy; omega) (hk.1 b y (by have := get_live hy; omega) (hold0 b y hy)), fun b s cs hy => hk3.2 b s cs (hk.2 b s cs (hold0 _ _ hy))⟩
end Go.Proofs.YthcleiegefhmdaaGreatDoor
