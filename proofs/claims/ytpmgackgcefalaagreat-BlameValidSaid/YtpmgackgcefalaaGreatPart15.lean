/-
  The walk of the document's Of, on the abstract machine.
  The walk of the document's Valid, on the abstract machine.
  The document's answer for layer 4, walked on the abstract machine: a quarter round.
  The example's tags, reckoned.
  The example: what is known of some calls.
  The document's answer for layer 4, walked on the abstract machine: words of bytes.
  The document's answer for layer 4, walked on the abstract machine: a block.
  The document's answer for layer 4, walked on the abstract machine: a text, byte by byte.
  The example: the block's bytes, reckoned.
-/
import Derived.Test.YtpmgackgcefalaaGreatMore
import Derived.Test.YtpmgackgcefalaaGreatPart14
import Derived.Test.YtpmgackgcefalaaGreatPart05
import Derived.KernelRfl
import Derived.Test.YtpmgackgcefalaaGreatPart06
set_option linter.unusedSimpArgs false
set_option linter.unusedVariables false
set_option linter.unusedSectionVars false
set_option linter.unnecessarySimpa false
set_option linter.defProp false
namespace Go.Proofs.YtpmgackgcefalaaGreat
open Go.RowKit Abs
end Go.Proofs.YtpmgackgcefalaaGreat
namespace Go.Proofs.YtpmgackgcefalaaGreat
open Go.RowKit Abs
theorem same1_at (m : Mem) {b1 o1 c1 b2 o2 c2 : Nat} {ro1 ro2 : Bool} {all1 all2 : List Value} {x y : ByteArray} (g1 : m.get b1 = some (.cells ro1 1 all1)) (h1 : all1[o1]? = some (.string x)) (k1 : c1 ≤ maxLen) (g2 : m.get b2 = some (.cells ro2 1 all2)) (h2 : all2[o2]? = some (.string y)) (k2 : c2 ≤ maxLen) :
    Abs.Spec Tryz.prog 27 [.slice (some ⟨b1, o1, none⟩) 1 c1, .slice (some ⟨b2, o2, none⟩) 1 c2] m fun u m' => u = .bool (decide (x = y)) ∧ m' = m :=
  Spec.of_below rfl fun ι w us hy hr => by
    obtain ⟨a, b, rfl, ha, hb⟩ := vrels_two hy
    have h := rsame_any a b [x] [y] w (one_text hr g1 h1 k1 ha) (one_text hr g2 h2 k2 hb) (by simp)
    have e : sameTexts [x] [y] = decide (x = y) := by
      unfold sameTexts
      rw [Bool.eq_iff_iff]; simp
    rw [e] at h
    exact h
theorem has_take {inj : List ByteArray} {a S : ByteArray} {t : Nat} (hS : inj[t]? = some S) (h1 : a ∉ inj.take t) (h2 : ¬ a = S) : a ∉ inj.take (t + 1) := by
  rw [List.take_add_one, hS, List.mem_append]
  rintro (h | h)
  · exact h1 h
  · simp at h; exact h2 h
def zB4 := And.intro (And.intro (And.intro (And.intro (Tryz.underlying28) (And.intro Tryz.underlying23 Tryz.underlying22)) (And.intro (And.intro Tryz.underlying32 Tryz.underlying30) (And.intro Tryz.underlying36 Tryz.underlying27))) (And.intro (And.intro (Tryz.underlying4) (And.intro @inf_arch @arch_size)) (And.intro (And.intro @ldA @ldH) (And.intro @ldStr @ldSS)))) (And.intro (And.intro (And.intro (@ldHs) (And.intro @ldW @ldInt)) (And.intro (And.intro @stA @stH) (And.intro @stW @agg_cells))) (And.intro (And.intro (And.intro @Arch.arr @faT0) (And.intro @faT1 @faA0)) (And.intro (And.intro @faA1 @faW0) (And.intro @faW1 @faW2))))
set_option maxRecDepth 100000 in
set_option maxHeartbeats 2000000 in
theorem rvalid_spec (m : Mem) (secret : ByteArray) (TV : Array Value) (tagged : List Header) (inj : List ByteArray) (r : Int × ByteArray × ByteArray) (hT : TraceOk m TV tagged inj) (hs : secret.size ≤ 140737488355000) (ha : r.2.1.size ≤ 140737488355) (hb : r.2.2.size ≤ 140737488355200) :
    Abs.Spec Tryz.prog 10 [.string secret, .agg TV, .int .i64 r.1, .string r.2.1, .string r.2.2] m fun u M => u = .bool (validV secret tagged inj r) ∧ M = m := by
  obtain ⟨kd, a, b⟩ := r
  simp only at ha hb ⊢
  obtain ⟨a1, k1, a2, k2, a3, n3, k3, c1, c2, fl, hTV, htr⟩ := hT
  have hrp : reachBytes = 140737488351232 := rfl
  obtain ⟨R, hR⟩ : ∃ R, R = validV secret tagged inj (kd, a, b) := ⟨_, rfl⟩
  rw [← hR]
  refine Abs.Spec.walkB Tryz.func10 (by rfl) _ Tryz.results10 _ Tryz.ntmps10 (by simp) m [] (ext_nil m).symm 0 rfl (.inl rfl) ?_
  intro hc hx
  replace hx := hx rfl
  obtain ⟨TC, hTC⟩ : ∃ TC, TC = TV.toList := ⟨_, rfl⟩
  have b1 : nBox Tryz.prog 27 (.agg TV) = some (.cells false (aStride Tryz.prog 27) TC) := by rw [hTC, hTV]; rfl
  have rT : ∀ keep, renL (ren (sig m.size keep) 4) TC = some TC := fun keep => renL_cl (by rw [hTC]; exact Cl.agg (hx _ (by simp))) (by rw [hTC, hTV]; rfl)
  have tc0 : TC[0]? = some (.slice a1 tagged.length k1) := by rw [hTC, hTV]; rfl
  have tc1 : TC[1]? = some (.slice a2 inj.length k2) := by rw [hTC, hTV]; rfl
  refine CW_seq (CW_region ?_)
  simp only [zZ, reduceIte, Nat.reduceLT, Int.reduceToNat, Int.reduceLE, Int.reduceEq, Int.reduceLT, Nat.reduceEqDiff, Nat.reduceAdd, zB4, b1]
  generalize aStride Tryz.prog 27 = s1
  refine CW_seq (CW_seq (CW_region ?_))
  simp only [zZ, reduceIte, Nat.reduceLT, Int.reduceToNat, Int.reduceLE, Int.reduceEq, Int.reduceLT, Nat.reduceEqDiff, Nat.reduceAdd, zB4]
  refine CW_cond (kd == 2) (by rfl) (fun hk => CW_seq (CW_region ?_)) (fun hk => CW_skip ?_)
  · have hk : kd = 2 := by simpa using hk
    simp only [zZ, reduceIte, Nat.reduceLT, Int.reduceToNat, Int.reduceLE, Int.reduceEq, Int.reduceLT, Nat.reduceEqDiff, Nat.reduceAdd, zB4]
    refine ⟨by kernel_rfl, _, rcvalid_at _ 32 a b (by omega) hb, ?_⟩
    rintro _ _ ⟨rfl, rfl⟩
    simp only [zZ, reduceIte, Nat.reduceLT, Int.reduceToNat, Int.reduceLE, Int.reduceEq, Int.reduceLT, Nat.reduceEqDiff, Nat.reduceAdd, zB4]
    refine CW_ret ?_
    simp only [zZ, reduceIte, Nat.reduceLT, Int.reduceToNat, Int.reduceLE, Int.reduceEq, Int.reduceLT, Nat.reduceEqDiff, Nat.reduceAdd, zB4, bEnd, sAnswer, sAnswer.sRes]
    refine told_flat rfl ?_
    rw [hR]
    simp only [validV]
    rw [if_neg (by omega), if_pos hk]
  · have hk : ¬ kd = 2 := by simpa using hk
    simp only [zZ, reduceIte, Nat.reduceLT, Int.reduceToNat, Int.reduceLE, Int.reduceEq, Int.reduceLT, Nat.reduceEqDiff, Nat.reduceAdd, zB4]
    refine CW_seq (CW_region ?_)
    simp only [zZ, reduceIte, Nat.reduceLT, Int.reduceToNat, Int.reduceLE, Int.reduceEq, Int.reduceLT, Nat.reduceEqDiff, Nat.reduceAdd, zB4]
    refine ⟨by kernel_rfl, _, roffered_at _ a ha, ?_⟩
    rintro _ _ ⟨rfl, rfl⟩
    -- what is not one, and told so
    have none_ : ∀ (L : List (Option (Option Blk))) (h : R = false), ToldB m 0 (.bool false) (ext m L) fun u M => u = .bool R ∧ M = m := fun L h => told_flat rfl (by rw [h])
    cases ho : offeredH a with
    | none =>
      have hRf : R = false := by
        rw [hR]; simp only [validV, ho]
        by_cases h1 : kd = 1
        · rw [if_pos h1]
        · rw [if_neg h1, if_neg hk]
      have hput := fun (M : Mem) (b : Nat) => putIn_whole (n := 7) M b (s := aStride Tryz.prog 30) (vs := zeroH.toList) (cs := [.int .i64 0, .string ⟨#[]⟩, .int .i64 0, .int .i64 0, .int .i64 0, .string ⟨#[]⟩, .string ⟨#[]⟩]) rfl rfl rfl
      simp only [zZ, reduceIte, Nat.reduceLT, Int.reduceToNat, Int.reduceLE, Int.reduceEq, Int.reduceLT, Nat.reduceEqDiff, Nat.reduceAdd, zB4, optHead, alloc_head, hput]
      refine CW_seq (CW_seq (CW_draw hmix 21 (by kernel_rfl) (by kernel_rfl) ?_))
      cases hk1 : (kd != 1) <;> simp only [zZ, reduceIte, Nat.reduceLT, Int.reduceToNat, Int.reduceLE, Int.reduceEq, Int.reduceLT, Nat.reduceEqDiff, Nat.reduceAdd, zB4, hk1, Bool.not_false, Bool.not_true]
      all_goals
        refine CW_cond true (by rfl) (fun _ => CW_seq (CW_region ?_)) (fun h => by cases h)
        simp only [zZ, reduceIte, Nat.reduceLT, Int.reduceToNat, Int.reduceLE, Int.reduceEq, Int.reduceLT, Nat.reduceEqDiff, Nat.reduceAdd, zB4]
        refine CW_ret ?_
        simp only [zZ, reduceIte, Nat.reduceLT, Int.reduceToNat, Int.reduceLE, Int.reduceEq, Int.reduceLT, Nat.reduceEqDiff, Nat.reduceAdd, zB4, bEnd, sAnswer, sAnswer.sRes]
        exact none_ _ hRf
    | some h =>
      have hput := fun (M : Mem) (b : Nat) => putIn_whole (n := 7) M b (s := aStride Tryz.prog 30) (vs := h.val.cells.toList) (cs := [.int .i64 0, .string ⟨#[]⟩, .int .i64 0, .int .i64 0, .int .i64 0, .string ⟨#[]⟩, .string ⟨#[]⟩]) rfl rfl rfl
      have w7 : ∀ s, rowIn 7 0 (some (.cells false s h.val.cells.toList)) = some h.val := fun s => rowIn_whole rfl
      simp only [zZ, reduceIte, Nat.reduceLT, Int.reduceToNat, Int.reduceLE, Int.reduceEq, Int.reduceLT, Nat.reduceEqDiff, Nat.reduceAdd, zB4, optHead, alloc_head, hput]
      have fin : R = false → ∀ (f : AL) (L : List (Option (Option Blk))), True := fun _ _ _ => trivial
      refine CW_seq (CW_seq (CW_draw hmix 21 (by kernel_rfl) (by kernel_rfl) ?_))
      cases hk1 : (kd != 1) with
      | true =>
        have hRf : R = false := by
          have : ¬ kd = 1 := by simpa using hk1
          rw [hR]; simp only [validV]
          rw [if_neg this, if_neg hk]
        simp only [zZ, reduceIte, Nat.reduceLT, Int.reduceToNat, Int.reduceLE, Int.reduceEq, Int.reduceLT, Nat.reduceEqDiff, Nat.reduceAdd, zB4, hk1]
        refine CW_cond true (by rfl) (fun _ => CW_seq (CW_region ?_)) (fun h => by cases h)
        simp only [zZ, reduceIte, Nat.reduceLT, Int.reduceToNat, Int.reduceLE, Int.reduceEq, Int.reduceLT, Nat.reduceEqDiff, Nat.reduceAdd, zB4]
        refine CW_ret ?_
        simp only [zZ, reduceIte, Nat.reduceLT, Int.reduceToNat, Int.reduceLE, Int.reduceEq, Int.reduceLT, Nat.reduceEqDiff, Nat.reduceAdd, zB4, bEnd, sAnswer, sAnswer.sRes]
        exact none_ _ hRf
      | false =>
        have hk1' : kd = 1 := by simpa using hk1
        have hR2 : R = (decide (b = ⟨#[]⟩) && hasText inj a && decide (h.verify (Sha.headKey secret.data.toList) = 0) && !hasHead tagged h) := by rw [hR]; simp only [validV, hk1', if_true, ho]
        simp only [zZ, reduceIte, Nat.reduceLT, Int.reduceToNat, Int.reduceLE, Int.reduceEq, Int.reduceLT, Nat.reduceEqDiff, Nat.reduceAdd, zB4, hk1, Bool.not_false, Bool.not_true]
        cases hq1 : beqB b ⟨#[]⟩ with
        | false =>
          rw [beqB_dec] at hq1
          have hRf : R = false := by rw [hR2, hq1]; simp
          simp only [zZ, reduceIte, Nat.reduceLT, Int.reduceToNat, Int.reduceLE, Int.reduceEq, Int.reduceLT, Nat.reduceEqDiff, Nat.reduceAdd, zB4, beqB_dec, hq1, Bool.not_false]
          refine CW_cond true (by rfl) (fun _ => CW_seq (CW_region ?_)) (fun h => by cases h)
          simp only [zZ, reduceIte, Nat.reduceLT, Int.reduceToNat, Int.reduceLE, Int.reduceEq, Int.reduceLT, Nat.reduceEqDiff, Nat.reduceAdd, zB4]
          refine CW_ret ?_
          simp only [zZ, reduceIte, Nat.reduceLT, Int.reduceToNat, Int.reduceLE, Int.reduceEq, Int.reduceLT, Nat.reduceEqDiff, Nat.reduceAdd, zB4, bEnd, sAnswer, sAnswer.sRes]
          exact none_ _ hRf
        | true =>
          rw [beqB_dec] at hq1
          simp only [zZ, reduceIte, Nat.reduceLT, Int.reduceToNat, Int.reduceLE, Int.reduceEq, Int.reduceLT, Nat.reduceEqDiff, Nat.reduceAdd, zB4, beqB_dec, hq1, Bool.not_true, tc0, w7]
          refine ⟨by kernel_rfl, _, tagged_at _ _ tagged h (htr.tag.grow (Grows.ext m _)) htr.wf (by have := htr.tl; omega), ?_⟩
          cases hq4 : hasHead tagged h with
          | true =>
            have hRf : R = false := by rw [hR2, hq4]; simp
            simp only [zZ, reduceIte, Nat.reduceLT, Int.reduceToNat, Int.reduceLE, Int.reduceEq, Int.reduceLT, Nat.reduceEqDiff, Nat.reduceAdd, zB4]
            refine CW_cond true (by rfl) (fun _ => CW_seq (CW_region ?_)) (fun h => by cases h)
            simp only [zZ, reduceIte, Nat.reduceLT, Int.reduceToNat, Int.reduceLE, Int.reduceEq, Int.reduceLT, Nat.reduceEqDiff, Nat.reduceAdd, zB4]
            refine CW_ret ?_
            simp only [zZ, reduceIte, Nat.reduceLT, Int.reduceToNat, Int.reduceLE, Int.reduceEq, Int.reduceLT, Nat.reduceEqDiff, Nat.reduceAdd, zB4, bEnd, sAnswer, sAnswer.sRes]
            exact none_ _ hRf
          | false =>
            simp only [zZ, reduceIte, Nat.reduceLT, Int.reduceToNat, Int.reduceLE, Int.reduceEq, Int.reduceLT, Nat.reduceEqDiff, Nat.reduceAdd, zB4]
            refine ⟨by kernel_rfl, _, rkeys_at _ secret ⟨#[]⟩ hs (by decide), ?_⟩
            simp only [zZ, reduceIte, Nat.reduceLT, Int.reduceToNat, Int.reduceLE, Int.reduceEq, Int.reduceLT, Nat.reduceEqDiff, Nat.reduceAdd, zB4, fK2, w7]
            refine ⟨by kernel_rfl, _, rverify_at _ (str (Sha.headKey secret.data.toList)) h (by rw [str_size, headKey_len]; decide), ?_⟩
            rw [str_list]
            rintro _ _ ⟨rfl, rfl⟩
            cases hq3 : (h.verify (Sha.headKey secret.data.toList) != 0) with
            | true =>
              have hRf : R = false := by
                have : ¬ h.verify (Sha.headKey secret.data.toList) = 0 := by simpa using hq3
                rw [hR2, decide_eq_false this]; simp
              simp only [zZ, reduceIte, Nat.reduceLT, Int.reduceToNat, Int.reduceLE, Int.reduceEq, Int.reduceLT, Nat.reduceEqDiff, Nat.reduceAdd, zB4, hq3]
              refine CW_cond true (by rfl) (fun _ => CW_seq (CW_region ?_)) (fun h => by cases h)
              simp only [zZ, reduceIte, Nat.reduceLT, Int.reduceToNat, Int.reduceLE, Int.reduceEq, Int.reduceLT, Nat.reduceEqDiff, Nat.reduceAdd, zB4]
              refine CW_ret ?_
              simp only [zZ, reduceIte, Nat.reduceLT, Int.reduceToNat, Int.reduceLE, Int.reduceEq, Int.reduceLT, Nat.reduceEqDiff, Nat.reduceAdd, zB4, bEnd, sAnswer, sAnswer.sRes]
              exact none_ _ hRf
            | false =>
              have hz : h.verify (Sha.headKey secret.data.toList) = 0 := by simpa using hq3
              have hR3 : R = hasText inj a := by rw [hR2, hq1, hq4, decide_eq_true hz]; simp
              have hil := htr.il
              simp only [zZ, reduceIte, Nat.reduceLT, Int.reduceToNat, Int.reduceLE, Int.reduceEq, Int.reduceLT, Nat.reduceEqDiff, Nat.reduceAdd, zB4, hq3]
              refine CW_cond false (by rfl) (fun h => by cases h) (fun _ => CW_skip ?_)
              simp only [zZ, reduceIte, Nat.reduceLT, Int.reduceToNat, Int.reduceLE, Int.reduceEq, Int.reduceLT, Nat.reduceEqDiff, Nat.reduceAdd, zB4]
              refine CW_seq (CW_seq (CW_region ?_))
              simp only [zZ, reduceIte, Nat.reduceLT, Int.reduceToNat, Int.reduceLE, Int.reduceEq, Int.reduceLT, Nat.reduceEqDiff, Nat.reduceAdd, zB4]
              refine CW_block (BW_loop hc (fun n f l => ∃ t : Nat, t + n = inj.length ∧ f = [(3, .string a), (6, .pointer (some ⟨m.size + 0, 0, none⟩)), (13, .int .i64 (t : Int))] ∧
                l = [some (some (.cells false s1 TC))] ∧ a ∉ inj.take t) inj.length ?_ ?_)
              · refine ⟨_, rfl, [0], [3, 6, 13], rfl, ?_⟩
                simp only [zZ, reduceIte, Nat.reduceLT, Int.reduceToNat, Int.reduceLE, Int.reduceEq, Int.reduceLT, Nat.reduceEqDiff, Nat.reduceAdd, zG, rT]
                exact ⟨0, by omega, rfl, by simp⟩
              · rintro n f l ⟨t, htn, rfl, rfl, hno⟩
                refine CW_seq (CW_seq (CW_region ?_))
                simp only [zZ, reduceIte, Nat.reduceLT, Int.reduceToNat, Int.reduceLE, Int.reduceEq, Int.reduceLT, Nat.reduceEqDiff, Nat.reduceAdd, zB4, tc1]
                refine CW_cond (decide ((t : Int) < (inj.length : Int))) (by rfl) (fun h => CW_skip ?_) (fun h => CW_exit ?_)
                · simp only [zZ, reduceIte, Nat.reduceLT, Int.reduceToNat, Int.reduceLE, Int.reduceEq, Int.reduceLT, Nat.reduceEqDiff, Nat.reduceAdd]
                  have htl : t < inj.length := by have := of_decide_eq_true h; omega
                  obtain ⟨g, ro, hpa, hgp⟩ := htr.injr.at (by omega)
                  have hg : ∀ l, (ext m l).get g = some (.cells ro 1 (inj.map .string)) := fun l => ext_get_old l hgp
                  obtain ⟨S, hS⟩ : ∃ S, inj[t]? = some S := ⟨_, List.getElem?_eq_getElem htl⟩
                  have hS' : (inj.map Value.string)[t]? = some (.string S) := by rw [List.getElem?_map, hS]; rfl
                  obtain ⟨_, k2', e2, _, hk2, hk2m, _⟩ := htr.injr
                  cases e2
                  subst hpa
                  have xi : IntKind.i64.wrap ((t : Int) + 1) = ((t + 1 : Nat) : Int) := by rw [wr (by omega) (by omega)]; omega
                  have hsl := fun l => slice_gen (P := Tryz.prog) Tryz.underlying23 inf_str Abs.str_size (o := 0) (len := inj.length) (cap := k2) (hg l) (t : Int) ((t + 1 : Nat) : Int) (by omega) (by omega) (by omega)
                  simp only [Int.toNat_natCast, Nat.mul_one, Nat.zero_add, show t + 1 - t = 1 by omega] at hsl
                  refine BW_mid hc (fun f l => f = [(3, .string a), (6, .pointer (some ⟨m.size + 0, 0, none⟩)), (13, .int .i64 (t : Int))] ∧ l = [some (some (.cells false s1 TC))] ∧ ¬ a = S) (CW_block (CW_seq (CW_region ?_))) ?_
                  rotate_left
                  · rintro f l ⟨rfl, rfl, hne⟩
                    refine CW_region ?_
                    simp only [zZ, reduceIte, Nat.reduceLT, Int.reduceToNat, Int.reduceLE, Int.reduceEq, Int.reduceLT, Nat.reduceEqDiff, Nat.reduceAdd, xi]
                    refine ⟨_, rfl, [0], [3, 6, 13], rfl, ?_⟩
                    simp only [zZ, reduceIte, Nat.reduceLT, Int.reduceToNat, Int.reduceLE, Int.reduceEq, Int.reduceLT, Nat.reduceEqDiff, Nat.reduceAdd, zG, rT]
                    exact ⟨n - 1, ⟨t + 1, by omega, rfl, has_take hS hno hne⟩, by omega⟩
                  simp only [zZ, reduceIte, Nat.reduceLT, Int.reduceToNat, Int.reduceLE, Int.reduceEq, Int.reduceLT, Nat.reduceEqDiff, Nat.reduceAdd, zB4, new_str, tc1, xi, hsl]
                  refine ⟨by kernel_rfl, _, same1_at _ (ro1 := false) (all1 := [.string a]) (x := a) (by simp only [zZ, reduceIte, Nat.reduceLT, Int.reduceToNat, Int.reduceLE, Int.reduceEq, Int.reduceLT, Nat.reduceEqDiff, Nat.reduceAdd]) rfl (by decide) (hg _) hS' (by omega), ?_⟩
                  rintro _ _ ⟨rfl, rfl⟩
                  simp only [zZ, reduceIte, Nat.reduceLT, Int.reduceToNat, Int.reduceLE, Int.reduceEq, Int.reduceLT, Nat.reduceEqDiff, Nat.reduceAdd]
                  refine CW_cond (decide (a = S)) (by rfl) (fun he => CW_seq (CW_region ?_)) (fun he => CW_skip ?_)
                  · have he := of_decide_eq_true he
                    simp only [zZ, reduceIte, Nat.reduceLT, Int.reduceToNat, Int.reduceLE, Int.reduceEq, Int.reduceLT, Nat.reduceEqDiff, Nat.reduceAdd, zB4]
                    refine CW_ret ?_
                    simp only [zZ, reduceIte, Nat.reduceLT, Int.reduceToNat, Int.reduceLE, Int.reduceEq, Int.reduceLT, Nat.reduceEqDiff, Nat.reduceAdd, zB4, bEnd, sAnswer, sAnswer.sRes]
                    refine told_flat rfl ?_
                    rw [hR3]
                    have : a ∈ inj := by rw [he]; exact List.mem_of_getElem? hS
                    simp [hasText, this]
                  · simp only [zZ, reduceIte, Nat.reduceLT, Int.reduceToNat, Int.reduceLE, Int.reduceEq, Int.reduceLT, Nat.reduceEqDiff, Nat.reduceAdd]
                    refine ⟨_, rfl, [0], [3, 6, 13], rfl, ?_⟩
                    simp only [zZ, reduceIte, Nat.reduceLT, Int.reduceToNat, Int.reduceLE, Int.reduceEq, Int.reduceLT, Nat.reduceEqDiff, Nat.reduceAdd, zG, rT]
                    exact of_decide_eq_false he
                · simp only [zZ, reduceIte, Nat.reduceLT, Int.reduceToNat, Int.reduceLE, Int.reduceEq, Int.reduceLT, Nat.reduceEqDiff, Nat.reduceAdd]
                  have htl : t = inj.length := by have := of_decide_eq_false h; omega
                  subst htl
                  rw [List.take_length] at hno
                  refine CW_seq (CW_region ?_)
                  simp only [zZ, reduceIte, Nat.reduceLT, Int.reduceToNat, Int.reduceLE, Int.reduceEq, Int.reduceLT, Nat.reduceEqDiff, Nat.reduceAdd, zB4]
                  refine CW_ret ?_
                  simp only [zZ, reduceIte, Nat.reduceLT, Int.reduceToNat, Int.reduceLE, Int.reduceEq, Int.reduceLT, Nat.reduceEqDiff, Nat.reduceAdd, zB4, bEnd, sAnswer, sAnswer.sRes]
                  refine none_ _ ?_
                  rw [hR3]
                  simp [hasText, hno]
end Go.Proofs.YtpmgackgcefalaaGreat
namespace Go.Proofs.YtpmgackgcefalaaGreat
open Go.RowKit Abs
def Cha.rotl (x n : Nat) : Nat := (x * 2 ^ n ||| x / 2 ^ (32 - n)) % 4294967296
def Cha.add (x y : Nat) : Nat := (x + y) % 4294967296
def Cha.quarter (a b c d : Nat) : Nat × Nat × Nat × Nat :=
  let a1 := Cha.add a b
  let d1 := Cha.rotl (d ^^^ a1) 16
  let c1 := Cha.add c d1
  let b1 := Cha.rotl (b ^^^ c1) 12
  let a2 := Cha.add a1 b1
  let d2 := Cha.rotl (d1 ^^^ a2) 8
  let c2 := Cha.add c1 d2
  let b2 := Cha.rotl (b1 ^^^ c2) 7
  (a2, b2, c2, d2)
theorem Cha.rotl_lt (x n : Nat) : Cha.rotl x n < 4294967296 := Nat.mod_lt _ (by decide)
theorem Cha.add_lt (x n : Nat) : Cha.add x n < 4294967296 := Nat.mod_lt _ (by decide)
set_option maxRecDepth 100000 in
theorem rotl_spec (m : Mem) (x n : Nat) (h1 : 1 ≤ n) (h2 : n ≤ 16) (hx : x < 4294967296) :
    Abs.Spec Tryz.prog 115 [.int .i64 (x : Int), .int .i64 (n : Int)] m fun v _ => v = .int .i64 (Cha.rotl x n : Nat) := by
  have hb : x * 2 ^ n < 281474976710656 := Nat.lt_of_lt_of_le (Nat.mul_lt_mul_of_pos_right hx (Nat.pow_pos (by decide))) (by
    have : 2 ^ n ≤ 2 ^ 16 := Nat.pow_le_pow_right (by decide) h2
    omega)
  have hd : x / 2 ^ (32 - n) ≤ x := Nat.div_le_self _ _
  have e1 : IntKind.i64.wrap ((x : Int) * 2 ^ min (n : Int).toNat IntKind.i64.bits) = ((x * 2 ^ n : Nat) : Int) := by
    rw [bits_i64, Int.toNat_natCast, show min n 64 = n by omega]
    have : (x : Int) * 2 ^ n = ((x * 2 ^ n : Nat) : Int) := by push_cast; rfl
    rw [this, wr (by omega) (by omega)]
  have e2 : IntKind.i64.wrap (32 - (n : Int)) = ((32 - n : Nat) : Int) := by rw [wr (by omega) (by omega)]; omega
  have e3 : (x : Int).fdiv (2 ^ min ((32 - n : Nat) : Int).toNat IntKind.i64.bits) = ((x / 2 ^ (32 - n) : Nat) : Int) := by
    rw [bits_i64, Int.toNat_natCast, show min (32 - n) 64 = 32 - n by omega, Int.fdiv_eq_ediv_of_nonneg _ (Int.le_of_lt (Int.pow_pos (by decide)))]
    push_cast; rfl
  have hor : x * 2 ^ n ||| x / 2 ^ (32 - n) < 2 ^ 48 := Nat.or_lt_two_pow hb (by omega)
  have e4 : bits .and .i64 (bits .or .i64 ((x * 2 ^ n : Nat) : Int) ((x / 2 ^ (32 - n) : Nat) : Int)) 4294967295 = (Cha.rotl x n : Nat) := by
    rw [i64_or_nat _ _ (by omega) (by omega), i64_word _ (by omega)]; rfl
  refine Abs.Spec.walk Tryz.func115 (by rfl) _ Tryz.results115 _ Tryz.ntmps115 (by simp) ?_
  refine SW_seq (SW_region ?_)
  simp only [zS, reduceIte, Nat.reduceLT, Int.reduceToNat, Int.reduceLE, Int.reduceEq, Int.reduceLT, Nat.reduceEqDiff, Nat.reduceAdd]
  refine SW_seq (SW_draw hmix 7 (by kernel_rfl) (by kernel_rfl) ?_)
  simp only [zS, reduceIte, Nat.reduceLT, Int.reduceToNat, Int.reduceLE, Int.reduceEq, Int.reduceLT, Nat.reduceEqDiff, Nat.reduceAdd, e1, e2, e3, e4]
  refine ⟨by omega, by omega, ?_⟩
  refine SW_ret ?_
  simp only [zS, reduceIte, Nat.reduceLT, Int.reduceToNat, Int.reduceLE, Int.reduceEq, Int.reduceLT, Nat.reduceEqDiff, Nat.reduceAdd, sAnswer, sAnswer.sRes]
theorem rotl_at (M : Mem) (x n : Nat) (h1 : 1 ≤ n) (h2 : n ≤ 16) (hx : x < 4294967296) :
    Abs.Spec Tryz.prog 115 [.int .i64 (x : Int), .int .i64 (n : Int)] M fun v M' => v = .int .i64 (Cha.rotl x n : Nat) ∧ M' = M :=
  Abs.Spec.of_flat (by intro x hx; simp at hx; rcases hx with rfl | rfl <;> rfl) rfl fun w => Calls.of_flat_val (by intro x hx; simp at hx; rcases hx with rfl | rfl <;> rfl) rfl (rotl_spec ⟨[]⟩ x n h1 h2 hx) w
theorem x32 (a b : Nat) (ha : a < 4294967296) (hb : b < 4294967296) : bits .xor .i64 (a : Int) (b : Int) = ((a ^^^ b : Nat) : Int) := i64_xor_nat _ _ (by omega) (by omega)
theorem a32 (a b : Nat) (ha : a < 4294967296) (hb : b < 4294967296) : bits .and .i64 (IntKind.i64.wrap ((a : Int) + (b : Int))) 4294967295 = (Cha.add a b : Nat) := sum_i64 a b ha hb
set_option maxRecDepth 100000 in
theorem quarter_spec (m : Mem) (a b c d : Nat) (ha : a < 4294967296) (hb : b < 4294967296) (hc : c < 4294967296) (hd : d < 4294967296) :
    Abs.Spec Tryz.prog 114 [.int .i64 (a : Int), .int .i64 (b : Int), .int .i64 (c : Int), .int .i64 (d : Int)] m fun v _ => v = .tuple #[.int .i64 ((Cha.quarter a b c d).1 : Nat), .int .i64 ((Cha.quarter a b c d).2.1 : Nat), .int .i64 ((Cha.quarter a b c d).2.2.1 : Nat), .int .i64 ((Cha.quarter a b c d).2.2.2 : Nat)] := by
  have mk : ∀ x : Nat, x < 4294967296 → bits .and .i64 (x : Int) 4294967295 = (x : Int) := fun x hx => by rw [i64_word _ (by omega)]; omega
  have A := Cha.add_lt
  have T := Cha.rotl_lt
  have X : ∀ x y : Nat, x < 4294967296 → y < 4294967296 → x ^^^ y < 4294967296 := fun x y h1 h2 => Nat.xor_lt_two_pow (n := 32) h1 h2
  refine Abs.Spec.walk Tryz.func114 (by rfl) _ Tryz.results114 _ Tryz.ntmps114 (by simp) ?_
  refine SW_seq (SW_region ?_)
  simp only [zS, reduceIte, Nat.reduceLT, Int.reduceToNat, Int.reduceLE, Int.reduceEq, Int.reduceLT, Nat.reduceEqDiff, Nat.reduceAdd]
  refine SW_seq (SW_region ?_)
  simp only [zS, reduceIte, Nat.reduceLT, Int.reduceToNat, Int.reduceLE, Int.reduceEq, Int.reduceLT, Nat.reduceEqDiff, Nat.reduceAdd, mk a ha]
  refine SW_seq (SW_region ?_)
  simp only [zS, reduceIte, Nat.reduceLT, Int.reduceToNat, Int.reduceLE, Int.reduceEq, Int.reduceLT, Nat.reduceEqDiff, Nat.reduceAdd, mk b hb]
  refine SW_seq (SW_region ?_)
  simp only [zS, reduceIte, Nat.reduceLT, Int.reduceToNat, Int.reduceLE, Int.reduceEq, Int.reduceLT, Nat.reduceEqDiff, Nat.reduceAdd, mk c hc]
  refine SW_seq (SW_region ?_)
  simp only [zS, reduceIte, Nat.reduceLT, Int.reduceToNat, Int.reduceLE, Int.reduceEq, Int.reduceLT, Nat.reduceEqDiff, Nat.reduceAdd, mk d hd]
  refine SW_keep [0, 1, 2, 3] ?_
  simp only [zS, reduceIte, Nat.reduceLT, Int.reduceToNat, Int.reduceLE, Int.reduceEq, Int.reduceLT, Nat.reduceEqDiff, Nat.reduceAdd]
  refine SW_seq (SW_region ?_)
  simp only [zS, reduceIte, Nat.reduceLT, Int.reduceToNat, Int.reduceLE, Int.reduceEq, Int.reduceLT, Nat.reduceEqDiff, Nat.reduceAdd, a32 a b ha hb]
  refine SW_seq (SW_region ?_)
  simp only [zS, reduceIte, Nat.reduceLT, Int.reduceToNat, Int.reduceLE, Int.reduceEq, Int.reduceLT, Nat.reduceEqDiff, Nat.reduceAdd, x32 d (Cha.add a b) hd (A _ _)]
  refine ⟨by kernel_rfl, _, rotl_at _ _ 16 (by decide) (by decide) (X _ _ hd (A _ _)), ?_⟩
  rintro _ M1 ⟨rfl, hM⟩
  clear hM
  simp only [zS, reduceIte, Nat.reduceLT, Int.reduceToNat, Int.reduceLE, Int.reduceEq, Int.reduceLT, Nat.reduceEqDiff, Nat.reduceAdd]
  refine SW_seq (SW_region ?_)
  simp only [zS, reduceIte, Nat.reduceLT, Int.reduceToNat, Int.reduceLE, Int.reduceEq, Int.reduceLT, Nat.reduceEqDiff, Nat.reduceAdd, a32 c (Cha.rotl (d ^^^ (Cha.add a b)) 16) hc (T _ _)]
  refine SW_seq (SW_region ?_)
  simp only [zS, reduceIte, Nat.reduceLT, Int.reduceToNat, Int.reduceLE, Int.reduceEq, Int.reduceLT, Nat.reduceEqDiff, Nat.reduceAdd, x32 b (Cha.add c (Cha.rotl (d ^^^ (Cha.add a b)) 16)) hb (A _ _)]
  refine ⟨by kernel_rfl, _, rotl_at _ _ 12 (by decide) (by decide) (X _ _ hb (A _ _)), ?_⟩
  rintro _ M1 ⟨rfl, hM⟩
  clear hM
  simp only [zS, reduceIte, Nat.reduceLT, Int.reduceToNat, Int.reduceLE, Int.reduceEq, Int.reduceLT, Nat.reduceEqDiff, Nat.reduceAdd]
  refine SW_seq (SW_region ?_)
  simp only [zS, reduceIte, Nat.reduceLT, Int.reduceToNat, Int.reduceLE, Int.reduceEq, Int.reduceLT, Nat.reduceEqDiff, Nat.reduceAdd, a32 (Cha.add a b) (Cha.rotl (b ^^^ (Cha.add c (Cha.rotl (d ^^^ (Cha.add a b)) 16))) 12) (A _ _) (T _ _)]
  refine SW_seq (SW_region ?_)
  simp only [zS, reduceIte, Nat.reduceLT, Int.reduceToNat, Int.reduceLE, Int.reduceEq, Int.reduceLT, Nat.reduceEqDiff, Nat.reduceAdd, x32 (Cha.rotl (d ^^^ (Cha.add a b)) 16) (Cha.add (Cha.add a b) (Cha.rotl (b ^^^ (Cha.add c (Cha.rotl (d ^^^ (Cha.add a b)) 16))) 12)) (T _ _) (A _ _)]
  refine ⟨by kernel_rfl, _, rotl_at _ _ 8 (by decide) (by decide) (X _ _ (T _ _) (A _ _)), ?_⟩
  rintro _ M1 ⟨rfl, hM⟩
  clear hM
  simp only [zS, reduceIte, Nat.reduceLT, Int.reduceToNat, Int.reduceLE, Int.reduceEq, Int.reduceLT, Nat.reduceEqDiff, Nat.reduceAdd]
  refine SW_seq (SW_region ?_)
  simp only [zS, reduceIte, Nat.reduceLT, Int.reduceToNat, Int.reduceLE, Int.reduceEq, Int.reduceLT, Nat.reduceEqDiff, Nat.reduceAdd, a32 (Cha.add c (Cha.rotl (d ^^^ (Cha.add a b)) 16)) (Cha.rotl ((Cha.rotl (d ^^^ (Cha.add a b)) 16) ^^^ (Cha.add (Cha.add a b) (Cha.rotl (b ^^^ (Cha.add c (Cha.rotl (d ^^^ (Cha.add a b)) 16))) 12))) 8) (A _ _) (T _ _)]
  refine SW_seq (SW_region ?_)
  simp only [zS, reduceIte, Nat.reduceLT, Int.reduceToNat, Int.reduceLE, Int.reduceEq, Int.reduceLT, Nat.reduceEqDiff, Nat.reduceAdd, x32 (Cha.rotl (b ^^^ (Cha.add c (Cha.rotl (d ^^^ (Cha.add a b)) 16))) 12) (Cha.add (Cha.add c (Cha.rotl (d ^^^ (Cha.add a b)) 16)) (Cha.rotl ((Cha.rotl (d ^^^ (Cha.add a b)) 16) ^^^ (Cha.add (Cha.add a b) (Cha.rotl (b ^^^ (Cha.add c (Cha.rotl (d ^^^ (Cha.add a b)) 16))) 12))) 8)) (T _ _) (A _ _)]
  refine ⟨by kernel_rfl, _, rotl_at _ _ 7 (by decide) (by decide) (X _ _ (T _ _) (A _ _)), ?_⟩
  rintro _ M1 ⟨rfl, hM⟩
  clear hM
  simp only [zS, reduceIte, Nat.reduceLT, Int.reduceToNat, Int.reduceLE, Int.reduceEq, Int.reduceLT, Nat.reduceEqDiff, Nat.reduceAdd]
  refine SW_seq (SW_region ?_)
  simp only [zS, reduceIte, Nat.reduceLT, Int.reduceToNat, Int.reduceLE, Int.reduceEq, Int.reduceLT, Nat.reduceEqDiff, Nat.reduceAdd]
  refine SW_ret ?_
  simp only [zS, reduceIte, Nat.reduceLT, Int.reduceToNat, Int.reduceLE, Int.reduceEq, Int.reduceLT, Nat.reduceEqDiff, Nat.reduceAdd, sAnswer, sAnswer.sRes]
  rfl
theorem quarter_at (M : Mem) (a b c d : Nat) (ha : a < 4294967296) (hb : b < 4294967296) (hc : c < 4294967296) (hd : d < 4294967296) :
    Abs.Spec Tryz.prog 114 [.int .i64 (a : Int), .int .i64 (b : Int), .int .i64 (c : Int), .int .i64 (d : Int)] M fun v M' => v = .tuple #[.int .i64 ((Cha.quarter a b c d).1 : Nat), .int .i64 ((Cha.quarter a b c d).2.1 : Nat), .int .i64 ((Cha.quarter a b c d).2.2.1 : Nat), .int .i64 ((Cha.quarter a b c d).2.2.2 : Nat)] ∧ M' = M :=
  Abs.Spec.of_flat (by intro x hx; simp at hx; rcases hx with rfl | rfl | rfl | rfl <;> rfl) rfl fun w => Calls.of_flat_val (by intro x hx; simp at hx; rcases hx with rfl | rfl | rfl | rfl <;> rfl) rfl (quarter_spec ⟨[]⟩ a b c d ha hb hc hd) w
end Go.Proofs.YtpmgackgcefalaaGreat
namespace Go.Proofs.YtpmgackgcefalaaGreat.Ex
open Go
set_option maxRecDepth 100000
theorem t1 : Sha.tag [115, 97, 108, 116, 4, 5, 6, 7, 8, 9, 10, 11, 12, 13, 14, 15] [115] = [210, 33, 204, 149, 64, 6, 110, 50, 181, 190, 233, 117, 129, 93, 13, 240, 166, 8, 112, 126, 23, 196, 194, 78, 71, 233, 165, 134, 188, 56, 73, 156] := by kernel_rfl
theorem enc : Sha.tag [210, 33, 204, 149, 64, 6, 110, 50, 181, 190, 233, 117, 129, 93, 13, 240, 166, 8, 112, 126, 23, 196, 194, 78, 71, 233, 165, 134, 188, 56, 73, 156] (Sha.forBytes ++ [1]) = [175, 34, 229, 180, 255, 21, 238, 119, 141, 240, 208, 107, 121, 237, 247, 0, 95, 110, 181, 1, 138, 51, 88, 151, 210, 77, 244, 6, 35, 6, 210, 24] := by kernel_rfl
theorem mac : Sha.tag [210, 33, 204, 149, 64, 6, 110, 50, 181, 190, 233, 117, 129, 93, 13, 240, 166, 8, 112, 126, 23, 196, 194, 78, 71, 233, 165, 134, 188, 56, 73, 156] (Sha.forTags ++ [1]) = [214, 162, 101, 238, 90, 251, 113, 98, 220, 230, 155, 211, 124, 230, 232, 216, 172, 222, 249, 211, 122, 121, 111, 213, 3, 163, 52, 47, 8, 133, 108, 177] := by kernel_rfl
theorem t2 : Sha.tag [] [115] = [251, 35, 176, 83, 125, 246, 242, 109, 123, 108, 252, 0, 101, 236, 127, 49, 117, 221, 108, 93, 218, 165, 72, 52, 155, 112, 78, 7, 31, 32, 150, 34] := by kernel_rfl
theorem head : Sha.tag [251, 35, 176, 83, 125, 246, 242, 109, 123, 108, 252, 0, 101, 236, 127, 49, 117, 221, 108, 93, 218, 165, 72, 52, 155, 112, 78, 7, 31, 32, 150, 34] (Sha.forHeads ++ [1]) = [99, 92, 220, 172, 47, 209, 125, 152, 245, 28, 243, 212, 52, 67, 4, 67, 159, 212, 28, 67, 33, 199, 164, 24, 178, 211, 127, 217, 175, 83, 194, 69] := by kernel_rfl
theorem enc2 : Sha.tag [251, 35, 176, 83, 125, 246, 242, 109, 123, 108, 252, 0, 101, 236, 127, 49, 117, 221, 108, 93, 218, 165, 72, 52, 155, 112, 78, 7, 31, 32, 150, 34] (Sha.forBytes ++ [1]) = [102, 151, 195, 209, 36, 59, 64, 121, 44, 129, 251, 219, 255, 16, 143, 176, 45, 108, 41, 96, 32, 27, 91, 92, 148, 223, 69, 112, 176, 143, 58, 128] := by kernel_rfl
theorem mac2 : Sha.tag [251, 35, 176, 83, 125, 246, 242, 109, 123, 108, 252, 0, 101, 236, 127, 49, 117, 221, 108, 93, 218, 165, 72, 52, 155, 112, 78, 7, 31, 32, 150, 34] (Sha.forTags ++ [1]) = [153, 121, 251, 214, 174, 168, 78, 219, 245, 108, 4, 250, 108, 209, 204, 52, 129, 125, 172, 88, 142, 91, 144, 90, 115, 121, 220, 77, 181, 125, 251, 107] := by kernel_rfl
theorem tOth : Sha.tag [] [111, 116, 104, 101, 114] = [65, 134, 152, 255, 121, 36, 191, 76, 96, 71, 151, 108, 7, 150, 94, 104, 30, 129, 214, 113, 89, 89, 87, 191, 106, 60, 208, 115, 111, 136, 221, 177] := by kernel_rfl
theorem heado : Sha.tag [65, 134, 152, 255, 121, 36, 191, 76, 96, 71, 151, 108, 7, 150, 94, 104, 30, 129, 214, 113, 89, 89, 87, 191, 106, 60, 208, 115, 111, 136, 221, 177] (Sha.forHeads ++ [1]) = [173, 216, 77, 140, 67, 4, 71, 169, 96, 151, 0, 100, 220, 133, 88, 0, 35, 3, 142, 182, 150, 17, 80, 47, 176, 63, 156, 129, 240, 7, 7, 7] := by kernel_rfl
theorem enco : Sha.tag [65, 134, 152, 255, 121, 36, 191, 76, 96, 71, 151, 108, 7, 150, 94, 104, 30, 129, 214, 113, 89, 89, 87, 191, 106, 60, 208, 115, 111, 136, 221, 177] (Sha.forBytes ++ [1]) = [67, 136, 97, 43, 223, 150, 39, 176, 182, 125, 246, 23, 99, 36, 41, 21, 103, 240, 106, 234, 161, 42, 15, 28, 88, 93, 59, 147, 132, 85, 20, 54] := by kernel_rfl
theorem maco : Sha.tag [65, 134, 152, 255, 121, 36, 191, 76, 96, 71, 151, 108, 7, 150, 94, 104, 30, 129, 214, 113, 89, 89, 87, 191, 106, 60, 208, 115, 111, 136, 221, 177] (Sha.forTags ++ [1]) = [173, 185, 97, 143, 33, 27, 108, 141, 70, 128, 149, 203, 102, 174, 53, 50, 28, 12, 224, 33, 18, 231, 217, 243, 136, 233, 32, 82, 25, 134, 69, 17] := by kernel_rfl
theorem btag : Sha.tag [214, 162, 101, 238, 90, 251, 113, 98, 220, 230, 155, 211, 124, 230, 232, 216, 172, 222, 249, 211, 122, 121, 111, 213, 3, 163, 52, 47, 8, 133, 108, 177] [0, 0, 0, 0, 1, 89, 7, 69, 121, 216, 104, 186, 174, 19, 200, 196, 5, 145, 117, 153, 67, 99, 222, 58, 71, 90, 9, 173, 67, 147, 225, 6, 37, 73, 147, 168, 83, 114, 145, 191, 156, 90, 93, 162, 84, 170, 41, 108, 214, 28, 161, 144, 146, 3, 34, 99, 210, 225, 26, 36, 14, 187, 58, 53, 127, 112, 242, 32, 154, 200, 253, 62, 198, 133, 56, 145, 142, 88, 26, 59, 179, 161, 154, 222, 248, 234, 12, 3, 224, 204, 251, 125, 105, 60, 63, 220, 69, 216, 147, 161, 86, 78, 245, 5, 225, 1, 152, 235, 166, 122, 157, 212, 64, 76, 152, 106, 75, 6, 228, 98, 129, 49, 24, 31, 173, 23, 127, 216, 118, 214, 221, 228, 27, 241, 152, 244, 116, 204, 239, 21, 180, 91, 73, 52, 254, 10, 228, 122, 246, 7, 18, 95, 238, 159, 59, 150, 100, 113, 126, 207, 188, 138, 239, 79, 8, 44, 41, 56, 186, 120, 208, 123, 174, 199, 147, 197, 198, 87, 28, 108, 142, 222, 28, 65, 127, 200, 200, 7, 245, 165, 101, 62, 27, 205, 39, 102] = [69, 190, 64, 80, 102, 55, 94, 198, 182, 41, 225, 133, 202, 242, 171, 165, 38, 226, 39, 135, 40, 25, 248, 107, 127, 140, 235, 169, 15, 40, 185, 218] := by kernel_rfl
theorem htag : Sha.tag [99, 92, 220, 172, 47, 209, 125, 152, 245, 28, 243, 212, 52, 67, 4, 67, 159, 212, 28, 67, 33, 199, 164, 24, 178, 211, 127, 217, 175, 83, 194, 69] [83, 76, 71, 49, 0, 0, 0, 7, 115, 97, 108, 116, 4, 5, 6, 7, 8, 9, 10, 11, 12, 13, 14, 15, 0, 1, 0, 0, 0, 5, 0, 0, 1, 244, 27, 72, 27, 65, 142, 154, 188, 222, 169, 230, 67, 197, 115, 136, 148, 41, 106, 128, 151, 25, 75, 188, 71, 37, 168, 56, 204, 49, 122, 247, 5, 23] = [42, 95, 109, 74, 84, 93, 144, 38, 171, 152, 70, 198, 96, 9, 132, 218, 213, 80, 241, 140, 205, 64, 62, 128, 233, 97, 1, 104, 236, 203, 235, 33] := by kernel_rfl
theorem htago : Sha.tag [173, 216, 77, 140, 67, 4, 71, 169, 96, 151, 0, 100, 220, 133, 88, 0, 35, 3, 142, 182, 150, 17, 80, 47, 176, 63, 156, 129, 240, 7, 7, 7] [83, 76, 71, 49, 0, 0, 0, 7, 115, 97, 108, 116, 4, 5, 6, 7, 8, 9, 10, 11, 12, 13, 14, 15, 0, 1, 0, 0, 0, 5, 0, 0, 1, 244, 27, 72, 27, 65, 142, 154, 188, 222, 169, 230, 67, 197, 115, 136, 148, 41, 106, 128, 151, 25, 75, 188, 71, 37, 168, 56, 204, 49, 122, 247, 5, 23] = [250, 176, 43, 124, 24, 220, 150, 46, 106, 21, 89, 18, 24, 113, 82, 118, 240, 179, 155, 195, 181, 128, 58, 246, 16, 71, 47, 21, 191, 52, 43, 73] := by kernel_rfl
theorem leaf : Sha.sum [0, 1, 89, 7, 69, 121, 216, 104, 186, 174, 19, 200, 196, 5, 145, 117, 153, 67, 99, 222, 58, 71, 90, 9, 173, 67, 147, 225, 6, 37, 73, 147, 168, 83, 114, 145, 191, 156, 90, 93, 162, 84, 170, 41, 108, 214, 28, 161, 144, 146, 3, 34, 99, 210, 225, 26, 36, 14, 187, 58, 53, 127, 112, 242, 32, 154, 200, 253, 62, 198, 133, 56, 145, 142, 88, 26, 59, 179, 161, 154, 222, 248, 234, 12, 3, 224, 204, 251, 125, 105, 60, 63, 220, 69, 216, 147, 161, 86, 78, 245, 5, 225, 1, 152, 235, 166, 122, 157, 212, 64, 76, 152, 106, 75, 6, 228, 98, 129, 49, 24, 31, 173, 23, 127, 216, 118, 214, 221, 228, 27, 241, 152, 244, 116, 204, 239, 21, 180, 91, 73, 52, 254, 10, 228, 122, 246, 7, 18, 95, 238, 159, 59, 150, 100, 113, 126, 207, 188, 138, 239, 79, 8, 44, 41, 56, 186, 120, 208, 123, 174, 199, 147, 197, 198, 87, 28, 108, 142, 222, 28, 65, 127, 200, 200, 7, 245, 165, 101, 62, 27, 205, 39, 102, 69, 190, 64, 80, 102, 55, 94, 198, 182, 41, 225, 133, 202, 242, 171, 165, 38, 226, 39, 135, 40, 25, 248, 107, 127, 140, 235, 169, 15, 40, 185, 218] = [27, 72, 27, 65, 142, 154, 188, 222, 169, 230, 67, 197, 115, 136, 148, 41, 106, 128, 151, 25, 75, 188, 71, 37, 168, 56, 204, 49, 122, 247, 5, 23] := by kernel_rfl
end Go.Proofs.YtpmgackgcefalaaGreat.Ex
namespace Go.Proofs.YtpmgackgcefalaaGreat
open Go.RowKit Abs
def eqBytes : List UInt8 → List UInt8 → Bool
  | [], [] => true
  | x :: r, y :: s => bif Nat.beq x.toNat y.toNat then eqBytes r s else false
  | _, _ => false
theorem eqBytes_spec : ∀ {a b : List UInt8}, eqBytes a b = true → a = b
  | [], [], _ => rfl
  | x :: r, y :: s, h => by
    simp only [eqBytes] at h
    cases hb : Nat.beq x.toNat y.toNat with
    | false => rw [hb] at h; cases h
    | true =>
      rw [hb] at h
      have e : x = y := UInt8.toNat_inj.1 (Nat.eq_of_beq_eq_true hb)
      rw [e, eqBytes_spec h]
  | [], _ :: _, h => by cases h
  | _ :: _, [], h => by cases h
def eqFlat : Value → Value → Bool
  | .int .i64 (.ofNat a), .int .i64 (.ofNat b) => Nat.beq a b
  | .string a, .string b => eqBytes a.data.toList b.data.toList
  | _, _ => false
theorem eqFlat_spec {x y : Value} (h : eqFlat x y = true) : x = y := by
  unfold eqFlat at h
  split at h
  · rw [Nat.eq_of_beq_eq_true h]
  · have := eqBytes_spec h
    rename_i a b
    congr 1
    apply ByteArray.ext
    apply Array.ext'
    exact this
  · cases h
def eqFlats : List Value → List Value → Bool
  | [], [] => true
  | x :: r, y :: s => bif eqFlat x y then eqFlats r s else false
  | _, _ => false
theorem eqFlats_spec : ∀ {a b : List Value}, eqFlats a b = true → a = b
  | [], [], _ => rfl
  | x :: r, y :: s, h => by
    simp only [eqFlats] at h
    cases hb : eqFlat x y with
    | false => rw [hb] at h; cases h
    | true => rw [hb] at h; rw [eqFlat_spec hb, eqFlats_spec h]
  | [], _ :: _, h => by cases h
  | _ :: _, [], h => by cases h
def eqVal : Value → Value → Bool
  | .agg a, .agg b => eqFlats a.toList b.toList
  | x, y => eqFlat x y
theorem eqVal_spec {x y : Value} (h : eqVal x y = true) : x = y := by
  unfold eqVal at h
  split at h
  · rename_i a b
    rw [Array.toList_inj.1 (eqFlats_spec h)]
  · exact eqFlat_spec h
def eqVals : List Value → List Value → Bool
  | [], [] => true
  | x :: r, y :: s => bif eqVal x y then eqVals r s else false
  | _, _ => false
theorem eqVals_spec : ∀ {a b : List Value}, eqVals a b = true → a = b
  | [], [], _ => rfl
  | x :: r, y :: s, h => by
    simp only [eqVals] at h
    cases hb : eqVal x y with
    | false => rw [hb] at h; cases h
    | true => rw [hb] at h; rw [eqVal_spec hb, eqVals_spec h]
  | [], _ :: _, h => by cases h
  | _ :: _, [], h => by cases h
def Known (P : Program) (k : FuncId) (xs : List Value) (v : Value) : Prop := (∀ x ∈ xs, flat 3 x = true) ∧ flat 3 v = true ∧ ∀ w, Calls P k xs.toArray w fun e w' => e = .returned v ∧ Below w.heap.size w w'
noncomputable def tabT : List (FuncId × List Value × Value) → Caller
  | [], _, _, _ => none
  | e :: r, j, ys, m => bif Nat.beq j e.1 then bif eqVals e.2.1 ys then some (e.2.2, m) else tabT r j ys m else tabT r j ys m
theorem tabT_good {P : Program} : ∀ (l : List (FuncId × List Value × Value)), (∀ e ∈ l, Known P e.1 e.2.1 e.2.2) → Abs.Good P (tabT l)
  | [], _ => fun k xs f v f' h => by cases h
  | e :: r, hl => fun k xs f v f' h m hm => by
    have hr := tabT_good r fun e he => hl e (List.mem_cons_of_mem _ he)
    simp only [tabT] at h
    cases hk : Nat.beq k e.1 with
    | false => rw [hk] at h; exact hr k xs f v f' h m hm
    | true =>
      rw [hk] at h
      simp only [cond_true] at h
      cases hx : eqVals e.2.1 xs with
      | false => rw [hx] at h; exact hr k xs f v f' h m hm
      | true =>
        rw [hx] at h
        simp only [cond_true, Option.some.injEq, Prod.mk.injEq] at h
        obtain ⟨rfl, rfl⟩ := h
        obtain ⟨h1, h2, h3⟩ := hl e List.mem_cons_self
        have ek := Nat.eq_of_beq_eq_true hk
        have ex := eqVals_spec hx
        subst ek; subst ex
        exact ⟨m, hm, Abs.Spec.of_flat h1 h2 h3, Ext.refl _⟩
noncomputable def quarterK {α : Type} (a b c d : Nat) (k : Nat → Nat → Nat → Nat → α) : α :=
  forceN (Cha.add a b) fun a1 => forceN (Cha.rotl (Nat.xor d a1) 16) fun d1 => forceN (Cha.add c d1) fun c1 => forceN (Cha.rotl (Nat.xor b c1) 12) fun b1 =>
  forceN (Cha.add a1 b1) fun a2 => forceN (Cha.rotl (Nat.xor d1 a2) 8) fun d2 => forceN (Cha.add c1 d2) fun c2 => forceN (Cha.rotl (Nat.xor b1 c2) 7) fun b2 => k a2 b2 c2 d2
theorem quarterK_eq {α : Type} (a b c d : Nat) (k : Nat → Nat → Nat → Nat → α) : quarterK a b c d k = k (Cha.quarter a b c d).1 (Cha.quarter a b c d).2.1 (Cha.quarter a b c d).2.2.1 (Cha.quarter a b c d).2.2.2 := by
  simp only [quarterK, forceN_eq]
  rfl
noncomputable def quarterT (ys : List Value) (m : FMem) : Option (Value × FMem) := match ys with
  | [.int .i64 (.ofNat a), .int .i64 (.ofNat b), .int .i64 (.ofNat c), .int .i64 (.ofNat d)] =>
    bif Nat.blt a 4294967296 then bif Nat.blt b 4294967296 then bif Nat.blt c 4294967296 then bif Nat.blt d 4294967296 then
      quarterK a b c d fun a b c d => some (.tuple #[.int .i64 (.ofNat a), .int .i64 (.ofNat b), .int .i64 (.ofNat c), .int .i64 (.ofNat d)], m)
    else none else none else none else none
  | _ => none
noncomputable def withQuarter (T : Caller) : Caller := fun k ys m => bif Nat.beq k 114 then quarterT ys m else T k ys m
theorem withQuarter_good {T : Caller} (hT : Abs.Good Tryz.prog T) : Abs.Good Tryz.prog (withQuarter T) := fun k xs f v f' h m hm => by
  unfold withQuarter at h
  cases hk : Nat.beq k 114 with
  | false => rw [hk] at h; exact hT k xs f v f' h m hm
  | true =>
    rw [hk] at h
    have ek := Nat.eq_of_beq_eq_true hk
    subst ek
    simp only [cond_true] at h
    unfold quarterT at h
    split at h <;> first | (cases h; done) | skip
    rename_i a b c d
    cases ha : Nat.blt a 4294967296 <;> rw [ha] at h <;> first | (cases h; done) | skip
    cases hb : Nat.blt b 4294967296 <;> rw [hb] at h <;> first | (cases h; done) | skip
    cases hc : Nat.blt c 4294967296 <;> rw [hc] at h <;> first | (cases h; done) | skip
    cases hd : Nat.blt d 4294967296 <;> rw [hd] at h <;> first | (cases h; done) | skip
    simp only [cond_true] at h
    rw [quarterK_eq] at h
    simp only [Option.some.injEq, Prod.mk.injEq] at h
    obtain ⟨rfl, rfl⟩ := h
    exact ⟨m, hm, quarter_at m a b c d (blt_iff.1 ha) (blt_iff.1 hb) (blt_iff.1 hc) (blt_iff.1 hd), Ext.refl _⟩
theorem exp32 (k info : List UInt8) : Sha.expand k info 32 = Sha.tag k (info ++ [1]) := by
  have : Sha.expand k info 32 = (Sha.tag k (info ++ [1])).take 32 := rfl
  rw [this, List.take_of_length_le (by rw [tag_len]; decide)]
namespace Ex
def keys1 : Value := .agg #[.string (str [175, 34, 229, 180, 255, 21, 238, 119, 141, 240, 208, 107, 121, 237, 247, 0, 95, 110, 181, 1, 138, 51, 88, 151, 210, 77, 244, 6, 35, 6, 210, 24]), .string (str [214, 162, 101, 238, 90, 251, 113, 98, 220, 230, 155, 211, 124, 230, 232, 216, 172, 222, 249, 211, 122, 121, 111, 213, 3, 163, 52, 47, 8, 133, 108, 177]), .string (str [99, 92, 220, 172, 47, 209, 125, 152, 245, 28, 243, 212, 52, 67, 4, 67, 159, 212, 28, 67, 33, 199, 164, 24, 178, 211, 127, 217, 175, 83, 194, 69])]
def keys2 : Value := .agg #[.string (str [102, 151, 195, 209, 36, 59, 64, 121, 44, 129, 251, 219, 255, 16, 143, 176, 45, 108, 41, 96, 32, 27, 91, 92, 148, 223, 69, 112, 176, 143, 58, 128]), .string (str [153, 121, 251, 214, 174, 168, 78, 219, 245, 108, 4, 250, 108, 209, 204, 52, 129, 125, 172, 88, 142, 91, 144, 90, 115, 121, 220, 77, 181, 125, 251, 107]), .string (str [99, 92, 220, 172, 47, 209, 125, 152, 245, 28, 243, 212, 52, 67, 4, 67, 159, 212, 28, 67, 33, 199, 164, 24, 178, 211, 127, 217, 175, 83, 194, 69])]
def keyso : Value := .agg #[.string (str [67, 136, 97, 43, 223, 150, 39, 176, 182, 125, 246, 23, 99, 36, 41, 21, 103, 240, 106, 234, 161, 42, 15, 28, 88, 93, 59, 147, 132, 85, 20, 54]), .string (str [173, 185, 97, 143, 33, 27, 108, 141, 70, 128, 149, 203, 102, 174, 53, 50, 28, 12, 224, 33, 18, 231, 217, 243, 136, 233, 32, 82, 25, 134, 69, 17]), .string (str [173, 216, 77, 140, 67, 4, 71, 169, 96, 151, 0, 100, 220, 133, 88, 0, 35, 3, 142, 182, 150, 17, 80, 47, 176, 63, 156, 129, 240, 7, 7, 7])]
theorem keys1_eq : keysV [115] [115, 97, 108, 116, 4, 5, 6, 7, 8, 9, 10, 11, 12, 13, 14, 15] = keys1 := by
  simp only [keysV, Sha.encKey, Sha.macKey, Sha.headKey, exp32, t1, t2, enc, mac, head]; rfl
theorem keys2_eq : keysV [115] [] = keys2 := by
  simp only [keysV, Sha.encKey, Sha.macKey, Sha.headKey, exp32, t2, enc2, mac2, head]; rfl
theorem keyso_eq : keysV [111, 116, 104, 101, 114] [] = keyso := by
  simp only [keysV, Sha.encKey, Sha.macKey, Sha.headKey, exp32, tOth, enco, maco, heado]; rfl
def salt : List UInt8 := [115, 97, 108, 116, 4, 5, 6, 7, 8, 9, 10, 11, 12, 13, 14, 15]
def leafL : List UInt8 := [27, 72, 27, 65, 142, 154, 188, 222, 169, 230, 67, 197, 115, 136, 148, 41, 106, 128, 151, 25, 75, 188, 71, 37, 168, 56, 204, 49, 122, 247, 5, 23]
def htagL : List UInt8 := [42, 95, 109, 74, 84, 93, 144, 38, 171, 152, 70, 198, 96, 9, 132, 218, 213, 80, 241, 140, 205, 64, 62, 128, 233, 97, 1, 104, 236, 203, 235, 33]
def h0 : Header := ⟨7, str salt, 1, 5, 500, str leafL, str htagL⟩
theorem h0_fields : h0.fields = str [83, 76, 71, 49, 0, 0, 0, 7, 115, 97, 108, 116, 4, 5, 6, 7, 8, 9, 10, 11, 12, 13, 14, 15, 0, 1, 0, 0, 0, 5, 0, 0, 1, 244, 27, 72, 27, 65, 142, 154, 188, 222, 169, 230, 67, 197, 115, 136, 148, 41, 106, 128, 151, 25, 75, 188, 71, 37, 168, 56, 204, 49, 122, 247, 5, 23] := by rfl
theorem h0_ver : h0.verify [99, 92, 220, 172, 47, 209, 125, 152, 245, 28, 243, 212, 52, 67, 4, 67, 159, 212, 28, 67, 33, 199, 164, 24, 178, 211, 127, 217, 175, 83, 194, 69] = 0 := by
  unfold Header.verify
  rw [h0_fields, str_list, htag]
  rfl
theorem h0_vero : h0.verify [173, 216, 77, 140, 67, 4, 71, 169, 96, 151, 0, 100, 220, 133, 88, 0, 35, 3, 142, 182, 150, 17, 80, 47, 176, 63, 156, 129, 240, 7, 7, 7] = 4 := by
  unfold Header.verify
  rw [h0_fields, str_list, htago]
  rfl
end Ex
end Go.Proofs.YtpmgackgcefalaaGreat
namespace Go.Proofs.YtpmgackgcefalaaGreat
open Go.RowKit Abs
def Cha.word (l : List UInt8) (i : Nat) : Nat := (l.getD (4 * i) 0).toNat + (l.getD (4 * i + 1) 0).toNat * 256 + (l.getD (4 * i + 2) 0).toNat * 65536 + (l.getD (4 * i + 3) 0).toNat * 16777216
def Cha.words (l : List UInt8) (n : Nat) : List Nat := (List.range n).map (Cha.word l)
theorem Cha.word_lt (l : List UInt8) (i : Nat) : Cha.word l i < 4294967296 := by
  unfold Cha.word
  have h0 := UInt8.toNat_lt (l.getD (4 * i) 0)
  have h1 := UInt8.toNat_lt (l.getD (4 * i + 1) 0)
  have h2 := UInt8.toNat_lt (l.getD (4 * i + 2) 0)
  have h3 := UInt8.toNat_lt (l.getD (4 * i + 3) 0)
  omega
set_option maxRecDepth 100000 in
set_option maxHeartbeats 1000000 in
theorem words_spec (m : Mem) (s : ByteArray) (hs : s.size ≤ 1000000) :
    Abs.Spec Tryz.prog 113 [.string s] m fun v m' => Sl m' v ((Cha.words s.data.toList (s.size / 4)).map natV) ∧ Grows m m' ∧ (∀ g l c, v = .slice (some ⟨g, 0, none⟩) l c → m.size ≤ g) := by
  obtain ⟨l, hl⟩ : ∃ l, l = s.data.toList := ⟨_, rfl⟩
  have hbs : bsize s = s.size := bsize_data s
  rw [← hl]
  refine Abs.Spec.walk Tryz.func113 (by rfl) _ Tryz.results113 _ Tryz.ntmps113 (by simp) ?_
  refine SW_seq (SW_region ?_)
  simp only [zS, reduceIte, Nat.reduceLT, Int.reduceToNat, Int.reduceLE, Int.reduceEq, Int.reduceLT, Nat.reduceEqDiff, Nat.reduceAdd]
  refine SW_seq (SW_region ?_)
  simp only [zS, reduceIte, Nat.reduceLT, Int.reduceToNat, Int.reduceLE, Int.reduceEq, Int.reduceLT, Nat.reduceEqDiff, Nat.reduceAdd]
  refine SW_seq (SW_seq (SW_region ?_))
  simp only [zS, reduceIte, Nat.reduceLT, Int.reduceToNat, Int.reduceLE, Int.reduceEq, Int.reduceLT, Nat.reduceEqDiff, Nat.reduceAdd]
  refine SW_block (SW_loopK [0, 3, 4] (fun k f M => ∃ (t : Nat) (o : Value), t + k = s.size / 4 ∧ f = [(0, .string s), (3, o), (4, .int .i64 ((4 * t : Nat) : Int))] ∧ Sl M o ((Cha.words l t).map natV) ∧ Grows m M ∧ (∀ g l c, o = .slice (some ⟨g, 0, none⟩) l c → m.size ≤ g)) (s.size / 4) ?_ ?_)
  · simp only [zS, reduceIte, Nat.reduceLT, Int.reduceToNat, Int.reduceLE, Int.reduceEq, Int.reduceLT, Nat.reduceEqDiff, Nat.reduceAdd]
    exact ⟨0, _, by omega, rfl, .inl ⟨rfl, rfl⟩, Grows.refl m, fun g l c e => by cases e⟩
  · rintro k f M ⟨t, o, ht, rfl, ho, hgr, hnew⟩
    have w3 : IntKind.i64.wrap (((4 * t : Nat) : Int) + 3) = ((4 * t + 3 : Nat) : Int) := by rw [wr (by omega) (by omega)]; omega
    refine SW_seq (SW_seq (SW_region ?_))
    simp only [zS, reduceIte, Nat.reduceLT, Int.reduceToNat, Int.reduceLE, Int.reduceEq, Int.reduceLT, Nat.reduceEqDiff, Nat.reduceAdd, zT, hbs, w3]
    refine SW_cond (decide (((4 * t + 3 : Nat) : Int) < (s.size : Int))) (by rfl) (fun hc => SW_skip ?_) (fun hc => SW_exit ?_)
    · simp only [zS, reduceIte, Nat.reduceLT, Int.reduceToNat, Int.reduceLE, Int.reduceEq, Int.reduceLT, Nat.reduceEqDiff, Nat.reduceAdd]
      have hlt := of_decide_eq_true hc
      have hlt' : 4 * t + 3 < s.size := by omega
      have w1 : IntKind.i64.wrap (((4 * t : Nat) : Int) + 1) = ((4 * t + 1 : Nat) : Int) := by rw [wr (by omega) (by omega)]; omega
      have w2 : IntKind.i64.wrap (((4 * t : Nat) : Int) + 2) = ((4 * t + 2 : Nat) : Int) := by rw [wr (by omega) (by omega)]; omega
      have w4 : IntKind.i64.wrap (((4 * t : Nat) : Int) + 4) = ((4 * (t + 1) : Nat) : Int) := by rw [wr (by omega) (by omega)]; omega
      have i0 := Abs.index_str s ((4 * t : Nat) : Int) (4 * t) rfl (by omega)
      have i1 := Abs.index_str s ((4 * t + 1 : Nat) : Int) (4 * t + 1) rfl (by omega)
      have i2 := Abs.index_str s ((4 * t + 2 : Nat) : Int) (4 * t + 2) rfl (by omega)
      have i3 := Abs.index_str s ((4 * t + 3 : Nat) : Int) (4 * t + 3) rfl (by omega)
      rw [← hl] at i0 i1 i2 i3
      obtain ⟨a0, e0⟩ : ∃ a : Nat, a = (l.getD (4 * t) 0).toNat := ⟨_, rfl⟩
      obtain ⟨a1, e1⟩ : ∃ a : Nat, a = (l.getD (4 * t + 1) 0).toNat := ⟨_, rfl⟩
      obtain ⟨a2, e2⟩ : ∃ a : Nat, a = (l.getD (4 * t + 2) 0).toNat := ⟨_, rfl⟩
      obtain ⟨a3, e3⟩ : ∃ a : Nat, a = (l.getD (4 * t + 3) 0).toNat := ⟨_, rfl⟩
      have b0 : a0 < 256 := by rw [e0]; exact UInt8.toNat_lt _
      have b1 : a1 < 256 := by rw [e1]; exact UInt8.toNat_lt _
      have b2 : a2 < 256 := by rw [e2]; exact UInt8.toNat_lt _
      have b3 : a3 < 256 := by rw [e3]; exact UInt8.toNat_lt _
      have hw : Cha.word l t = a0 + a1 * 256 + a2 * 65536 + a3 * 16777216 := by rw [e0, e1, e2, e3]; rfl
      rw [← e0] at i0
      rw [← e1] at i1
      rw [← e2] at i2
      rw [← e3] at i3
      have v0 : IntKind.i64.wrap (a0 : Int) = (a0 : Int) := wr (by omega) (by omega)
      have v1 : IntKind.i64.wrap (a1 : Int) = (a1 : Int) := wr (by omega) (by omega)
      have v2 : IntKind.i64.wrap (a2 : Int) = (a2 : Int) := wr (by omega) (by omega)
      have v3 : IntKind.i64.wrap (a3 : Int) = (a3 : Int) := wr (by omega) (by omega)
      have v4 : IntKind.i64.wrap ((a1 : Int) * 256) = (a1 : Int) * 256 := wr (by omega) (by omega)
      have v5 : IntKind.i64.wrap ((a2 : Int) * 65536) = (a2 : Int) * 65536 := wr (by omega) (by omega)
      have v6 : IntKind.i64.wrap ((a3 : Int) * 16777216) = (a3 : Int) * 16777216 := wr (by omega) (by omega)
      have v7 : IntKind.i64.wrap ((a0 : Int) + (a1 : Int) * 256) = (a0 : Int) + (a1 : Int) * 256 := wr (by omega) (by omega)
      have v8 : IntKind.i64.wrap ((a0 : Int) + (a1 : Int) * 256 + (a2 : Int) * 65536) = (a0 : Int) + (a1 : Int) * 256 + (a2 : Int) * 65536 := wr (by omega) (by omega)
      have v9 : IntKind.i64.wrap ((a0 : Int) + (a1 : Int) * 256 + (a2 : Int) * 65536 + (a3 : Int) * 16777216) = ((Cha.word l t : Nat) : Int) := by rw [wr (by omega) (by omega), hw]; omega
      have hxl : ((Cha.words l t).map natV).length = t := by simp [Cha.words]
      obtain ⟨s', m2, happ, hs', hgr', hnew'⟩ := ho.app_int hgr hnew (natV (Cha.word l t)) (by omega)
      have hcat : (Cha.words l t).map natV ++ [natV (Cha.word l t)] = (Cha.words l (t + 1)).map natV := by simp [Cha.words, List.range_succ]
      rw [hcat] at hs'
      unfold natV at happ
      refine SW_seq (SW_block (SW_draw hmix 27 (by kernel_rfl) (by kernel_rfl) ?_))
      simp only [zS, reduceIte, Nat.reduceLT, Int.reduceToNat, Int.reduceLE, Int.reduceEq, Int.reduceLT, Nat.reduceEqDiff, Nat.reduceAdd, zT, w1, w2, w3, i0, i1, i2, i3, v0, v1, v2, v3, v4, v5, v6, v7, v8, v9, happ]
      refine SW_region ?_
      simp only [zS, reduceIte, Nat.reduceLT, Int.reduceToNat, Int.reduceLE, Int.reduceEq, Int.reduceLT, Nat.reduceEqDiff, Nat.reduceAdd, w4]
      exact ⟨k - 1, ⟨t + 1, s', by omega, rfl, hs', hgr', hnew'⟩, by omega⟩
    · simp only [zS, reduceIte, Nat.reduceLT, Int.reduceToNat, Int.reduceLE, Int.reduceEq, Int.reduceLT, Nat.reduceEqDiff, Nat.reduceAdd]
      have hge := of_decide_eq_false hc
      have hte : t = s.size / 4 := by omega
      subst hte
      refine SW_seq (SW_region ?_)
      simp only [zS, reduceIte, Nat.reduceLT, Int.reduceToNat, Int.reduceLE, Int.reduceEq, Int.reduceLT, Nat.reduceEqDiff, Nat.reduceAdd]
      refine SW_ret ?_
      simp only [zS, reduceIte, Nat.reduceLT, Int.reduceToNat, Int.reduceLE, Int.reduceEq, Int.reduceLT, Nat.reduceEqDiff, Nat.reduceAdd, sAnswer, sAnswer.sRes]
      exact ⟨ho, hgr, hnew⟩
end Go.Proofs.YtpmgackgcefalaaGreat
namespace Go.Proofs.YtpmgackgcefalaaGreat
open Go.RowKit Abs
def Cha.rows : List (List Nat) := [[0, 4, 8, 12], [1, 5, 9, 13], [2, 6, 10, 14], [3, 7, 11, 15], [0, 5, 10, 15], [1, 6, 11, 12], [2, 7, 8, 13], [3, 4, 9, 14]]
def Cha.at (r k : Nat) : Nat := ((Cha.rows.getD r []).getD k 0)
def Cha.step (x : List Nat) (r : Nat) : List Nat :=
  let q := Cha.quarter (x.getD (Cha.at r 0) 0) (x.getD (Cha.at r 1) 0) (x.getD (Cha.at r 2) 0) (x.getD (Cha.at r 3) 0)
  (((x.set (Cha.at r 0) q.1).set (Cha.at r 1) q.2.1).set (Cha.at r 2) q.2.2.1).set (Cha.at r 3) q.2.2.2
def Cha.inner (x : List Nat) : Nat → List Nat
  | 0 => x
  | r + 1 => Cha.step (Cha.inner x r) r
def Cha.dbl (x : List Nat) : Nat → List Nat
  | 0 => x
  | n + 1 => Cha.inner (Cha.dbl x n) 8
def Cha.init (key nonce : List UInt8) (c : Nat) : List Nat := [1634760805, 857760878, 2036477234, 1797285236] ++ Cha.words key 8 ++ [c] ++ Cha.words nonce 3
def Cha.le (w : Nat) : Nat → List UInt8
  | 0 => []
  | n + 1 => UInt8.ofNat (w % 256) :: Cha.le (w / 256) n
def Cha.outN (x s : List Nat) (n : Nat) : List UInt8 := (List.range n).flatMap fun i => Cha.le (Cha.add (x.getD i 0) (s.getD i 0)) 4
def Cha.block (key nonce : List UInt8) (c : Nat) : List UInt8 := Cha.outN (Cha.dbl (Cha.init key nonce c) 10) (Cha.init key nonce c) 16
theorem Cha.at_lt (r k : Nat) (hr : r < 8) (hk : k < 4) : Cha.at r k < 16 := by
  have : ∀ r : Fin 8, ∀ k : Fin 4, Cha.at r.val k.val < 16 := by decide
  exact this ⟨r, hr⟩ ⟨k, hk⟩
def Cha.Ok (x : List Nat) : Prop := x.length = 16 ∧ ∀ i, x.getD i 0 < 4294967296
theorem Cha.Ok.set {x : List Nat} (h : Cha.Ok x) (i v : Nat) (hv : v < 4294967296) : Cha.Ok (x.set i v) := by
  refine ⟨by simp [h.1], fun j => ?_⟩
  rw [List.getD, List.getElem?_set]
  split
  · split
    · exact hv
    · decide
  · have := h.2 j
    rw [List.getD] at this
    exact this
theorem Cha.quarter_lt (a b c d : Nat) : (Cha.quarter a b c d).1 < 4294967296 ∧ (Cha.quarter a b c d).2.1 < 4294967296 ∧ (Cha.quarter a b c d).2.2.1 < 4294967296 ∧ (Cha.quarter a b c d).2.2.2 < 4294967296 :=
  ⟨Cha.add_lt _ _, Cha.rotl_lt _ _, Cha.add_lt _ _, Cha.rotl_lt _ _⟩
theorem Cha.step_ok {x : List Nat} (h : Cha.Ok x) (r : Nat) : Cha.Ok (Cha.step x r) := by
  obtain ⟨h1, h2, h3, h4⟩ := Cha.quarter_lt (x.getD (Cha.at r 0) 0) (x.getD (Cha.at r 1) 0) (x.getD (Cha.at r 2) 0) (x.getD (Cha.at r 3) 0)
  exact (((h.set _ _ h1).set _ _ h2).set _ _ h3).set _ _ h4
theorem Cha.inner_ok {x : List Nat} (h : Cha.Ok x) : ∀ r, Cha.Ok (Cha.inner x r)
  | 0 => h
  | r + 1 => Cha.step_ok (Cha.inner_ok h r) r
theorem Cha.dbl_ok {x : List Nat} (h : Cha.Ok x) : ∀ r, Cha.Ok (Cha.dbl x r)
  | 0 => h
  | r + 1 => Cha.inner_ok (Cha.dbl_ok h r) 8
theorem Cha.init_ok (key nonce : List UInt8) (c : Nat) (hc : c < 4294967296) : Cha.Ok (Cha.init key nonce c) := by
  refine ⟨by simp [Cha.init, Cha.words], fun i => ?_⟩
  have : ∀ v ∈ Cha.init key nonce c, v < 4294967296 := by
    intro v hv
    simp only [Cha.init, Cha.words, List.mem_append, List.mem_map] at hv
    rcases hv with ((hv | ⟨j, _, rfl⟩) | hv) | ⟨j, _, rfl⟩
    · simp at hv; omega
    · exact Cha.word_lt _ _
    · simp at hv; omega
    · exact Cha.word_lt _ _
  rw [List.getD]
  cases h : (Cha.init key nonce c)[i]? with
  | none => decide
  | some v => exact this v (List.mem_of_getElem? h)
theorem natV_at {x : List Nat} {i : Nat} (hi : i < x.length) : (x.map natV)[i]? = some (.int .i64 ((x.getD i 0 : Nat) : Int)) := by
  rw [List.getElem?_map, List.getD, List.getElem?_eq_getElem hi]; rfl
theorem natV_set (x : List Nat) (i v : Nat) : (x.map natV).set i (.int .i64 (v : Int)) = (x.set i v).map natV := by
  rw [List.map_set]; rfl
theorem new_int4 (a b c d : Int) : nBuildSlice Tryz.prog 140 4 [(0, .int .i64 a), (1, .int .i64 b), (2, .int .i64 c), (3, .int .i64 d)] = some (.cells false 1 [.int .i64 a, .int .i64 b, .int .i64 c, .int .i64 d]) := by kernel_rfl
theorem le_length : ∀ (n w : Nat), (Cha.le w n).length = n
  | 0, _ => rfl
  | n + 1, w => by simp [Cha.le, le_length n]
theorem le_get : ∀ (w n e : Nat), e < n → (Cha.le w n)[e]? = some (UInt8.ofNat (w / 256 ^ e % 256))
  | w, 0, e, h => by omega
  | w, n + 1, 0, h => by simp [Cha.le]
  | w, n + 1, e + 1, h => by
    simp only [Cha.le, List.getElem?_cons_succ]
    rw [le_get (w / 256) n e (by omega), Nat.pow_succ, Nat.mul_comm (256 ^ e) 256, ← Nat.div_div_eq_div_mul]
theorem outN_length (x s : List Nat) : ∀ n, (Cha.outN x s n).length = 4 * n
  | 0 => rfl
  | n + 1 => by
    have : Cha.outN x s (n + 1) = Cha.outN x s n ++ Cha.le (Cha.add (x.getD n 0) (s.getD n 0)) 4 := by simp [Cha.outN, List.range_succ]
    rw [this, List.length_append, outN_length x s n, le_length]; omega
theorem new_sl8 (n0 n1 n2 n3 n4 n5 n6 n7 : Nat) : nBuildSlice Tryz.prog 163 8 [(0, .slice (some ⟨n0, 0, none⟩) 4 4), (1, .slice (some ⟨n1, 0, none⟩) 4 4), (2, .slice (some ⟨n2, 0, none⟩) 4 4), (3, .slice (some ⟨n3, 0, none⟩) 4 4), (4, .slice (some ⟨n4, 0, none⟩) 4 4), (5, .slice (some ⟨n5, 0, none⟩) 4 4), (6, .slice (some ⟨n6, 0, none⟩) 4 4), (7, .slice (some ⟨n7, 0, none⟩) 4 4)] =
    some (.cells false 1 [.slice (some ⟨n0, 0, none⟩) 4 4, .slice (some ⟨n1, 0, none⟩) 4 4, .slice (some ⟨n2, 0, none⟩) 4 4, .slice (some ⟨n3, 0, none⟩) 4 4, .slice (some ⟨n4, 0, none⟩) 4 4, .slice (some ⟨n5, 0, none⟩) 4 4, .slice (some ⟨n6, 0, none⟩) 4 4, .slice (some ⟨n7, 0, none⟩) 4 4]) := by kernel_rfl
theorem inf_sl : Tryz.prog.info? 140 = some Tryz.t140 := by kernel_rfl
theorem sl_size : Tryz.t140.size = 1 := rfl
set_option maxRecDepth 100000 in
set_option maxHeartbeats 4000000 in
theorem block_spec (m : Mem) (key nonce : ByteArray) (c : Nat) (hk : key.size = 32) (hn : nonce.size = 12) (hc : c < 4294967296) :
    Abs.Spec Tryz.prog 103 [.string key, .string nonce, .int .i64 (c : Int)] m fun v m' => Sl m' v (bytesV (Cha.block key.data.toList nonce.data.toList c)) ∧ Grows m m' ∧ (∀ g l c, v = .slice (some ⟨g, 0, none⟩) l c → m.size ≤ g) := by
  obtain ⟨S, hS⟩ : ∃ S, S = Cha.init key.data.toList nonce.data.toList c := ⟨_, rfl⟩
  have hSok : Cha.Ok S := by rw [hS]; exact Cha.init_ok _ _ _ hc
  refine Abs.Spec.walk Tryz.func103 (by rfl) _ Tryz.results103 _ Tryz.ntmps103 (by simp) ?_
  refine SW_seq (SW_region ?_)
  simp only [zS, reduceIte, Nat.reduceLT, Int.reduceToNat, Int.reduceLE, Int.reduceEq, Int.reduceLT, Nat.reduceEqDiff, Nat.reduceAdd]
  refine SW_seq (SW_region ?_)
  simp only [zS, reduceIte, Nat.reduceLT, Int.reduceToNat, Int.reduceLE, Int.reduceEq, Int.reduceLT, Nat.reduceEqDiff, Nat.reduceAdd, new_int4]
  have h0 : Sl (m.push (.cells false 1 [.int .i64 1634760805, .int .i64 857760878, .int .i64 2036477234, .int .i64 1797285236])) (.slice (some ⟨m.size, 0, none⟩) 4 4) [.int .i64 1634760805, .int .i64 857760878, .int .i64 2036477234, .int .i64 1797285236] := Sl.block rfl (Mem.get_push_new _ _)
  have g0 : Grows m (m.push (.cells false 1 [.int .i64 1634760805, .int .i64 857760878, .int .i64 2036477234, .int .i64 1797285236])) := (Grows.refl m).push _
  have n0 : ∀ g l c, Value.slice (some ⟨m.size, 0, none⟩) 4 4 = .slice (some ⟨g, 0, none⟩) l c → m.size ≤ g := fun g l c e => by cases e; exact Nat.le_refl _
  generalize m.push (.cells false 1 [.int .i64 1634760805, .int .i64 857760878, .int .i64 2036477234, .int .i64 1797285236]) = M0 at *
  obtain ⟨a0, ha0⟩ : ∃ v, v = Value.slice (some ⟨m.size, 0, none⟩) 4 4 := ⟨_, rfl⟩
  have hs0 : ∃ g, a0 = .slice (some ⟨g, 0, none⟩) 4 4 := ⟨_, ha0⟩
  rw [← ha0] at h0 n0 ⊢
  clear ha0
  refine SW_seq (SW_region ?_)
  simp only [zS, reduceIte, Nat.reduceLT, Int.reduceToNat, Int.reduceLE, Int.reduceEq, Int.reduceLT, Nat.reduceEqDiff, Nat.reduceAdd]
  refine ⟨by kernel_rfl, _, words_spec M0 key (by omega), ?_⟩
  rintro w1 M1 ⟨hw1, hg1, hn1⟩
  rw [hk] at hw1
  obtain ⟨gw1, hw1v, hw1g⟩ := hw1.at (by simp [Cha.words])
  have hl1 : ((Cha.words key.data.toList (32 / 4)).map natV).length = 8 := by simp [Cha.words]
  have h0' : Sl M1 a0 [.int .i64 1634760805, .int .i64 857760878, .int .i64 2036477234, .int .i64 1797285236] := by
    rcases h0 with ⟨_, h⟩ | ⟨g, h, h'⟩
    · cases h
    · exact .inr ⟨g, h, hg1.2 _ _ h'⟩
  obtain ⟨a1, M2, happ, hs1, hgr1, hnew1, _⟩ := Sl.appL Tryz.underlying140 inf_int int_zero int_size rfl h0' hw1g (by omega) (g0.trans hg1) n0 (by rw [int_bytes, hl1]; decide) (by rw [hl1]; decide)
  rw [hw1v]
  simp only [happ, zS, reduceIte, Nat.reduceLT, Int.reduceToNat, Int.reduceLE, Int.reduceEq, Int.reduceLT, Nat.reduceEqDiff, Nat.reduceAdd]
  have hap2 := hs1.app_int hgr1 hnew1 (.int .i64 (c : Int)) (by simp [Cha.words])
  obtain ⟨a2, M3, happ2, hs2, hgr2, hnew2⟩ := hap2
  refine SW_seq (SW_region ?_)
  simp only [zS, reduceIte, Nat.reduceLT, Int.reduceToNat, Int.reduceLE, Int.reduceEq, Int.reduceLT, Nat.reduceEqDiff, Nat.reduceAdd, new_int, happ2]
  refine SW_seq (SW_region ?_)
  simp only [zS, reduceIte, Nat.reduceLT, Int.reduceToNat, Int.reduceLE, Int.reduceEq, Int.reduceLT, Nat.reduceEqDiff, Nat.reduceAdd]
  refine ⟨by kernel_rfl, _, words_spec M3 nonce (by omega), ?_⟩
  rintro w2 M4 ⟨hw2, hg4, hn2⟩
  rw [hn] at hw2
  obtain ⟨gw2, hw2v, hw2g⟩ := hw2.at (by simp [Cha.words])
  have hl2 : ((Cha.words nonce.data.toList (12 / 4)).map natV).length = 3 := by simp [Cha.words]
  have hs2' : Sl M4 a2 ([.int .i64 1634760805, .int .i64 857760878, .int .i64 2036477234, .int .i64 1797285236] ++ (Cha.words key.data.toList (32 / 4)).map natV ++ [.int .i64 (c : Int)]) := by
    rcases hs2 with ⟨_, h⟩ | ⟨g, h, h'⟩
    · simp at h
    · exact .inr ⟨g, h, hg4.2 _ _ h'⟩
  obtain ⟨a3, M5, happ3, hs3, hgr3, hnew3, _⟩ := Sl.appL Tryz.underlying140 inf_int int_zero int_size rfl hs2' hw2g (by omega) (hgr2.trans hg4) hnew2 (by rw [int_bytes, hl2]; simp [Cha.words]) (by rw [hl2]; simp [Cha.words])
  rw [hw2v]
  simp only [happ3, zS, reduceIte, Nat.reduceLT, Int.reduceToNat, Int.reduceLE, Int.reduceEq, Int.reduceLT, Nat.reduceEqDiff, Nat.reduceAdd]
  have hSl : [.int .i64 1634760805, .int .i64 857760878, .int .i64 2036477234, .int .i64 1797285236] ++ (Cha.words key.data.toList (32 / 4)).map natV ++ [.int .i64 (c : Int)] ++ (Cha.words nonce.data.toList (12 / 4)).map natV = S.map natV := by
    rw [hS]; simp [Cha.init, natV]
  rw [hSl] at hs3
  have hSlen : (S.map natV).length = 16 := by rw [List.length_map, hSok.1]
  obtain ⟨gs, rfl, hgs⟩ := hs3.at (by omega)
  rw [hSlen]
  have hgs0 := hnew3 gs _ _ rfl
  clear hs0 h0 g0 n0 hw1 hw1v hw1g h0' hs1 hgr1 hnew1 happ happ2 hs2 hgr2 hnew2 hw2 hw2v hw2g hs2' happ3 hnew3 hs3 hg1 hn1 hg4 hn2
  refine SW_seq (SW_region ?_)
  simp only [zS, reduceIte, Nat.reduceLT, Int.reduceToNat, Int.reduceLE, Int.reduceEq, Int.reduceLT, Nat.reduceEqDiff, Nat.reduceAdd]
  obtain ⟨a4, M6, happ4, hs4, hgr4, hnew4, hkeep4⟩ := Sl.appL Tryz.underlying140 inf_int int_zero int_size rfl (s := .slice none 0 0) (xs := []) (.inl ⟨rfl, rfl⟩) hgs (by omega) (Grows.refl M5) (fun g l c e => by cases e) (by rw [int_bytes, hSlen]; decide) (by rw [hSlen]; decide)
  rw [hSlen] at happ4
  rw [List.nil_append] at hs4
  obtain ⟨gx, rfl, hgx⟩ := hs4.at (by omega)
  have hgs4 := hkeep4 gs _ (fun l c e => by cases e) hgs
  have hgx0 := hnew4 gx _ _ rfl
  rw [hSlen] at happ4
  refine SW_seq (SW_region ?_)
  simp only [zS, reduceIte, Nat.reduceLT, Int.reduceToNat, Int.reduceLE, Int.reduceEq, Int.reduceLT, Nat.reduceEqDiff, Nat.reduceAdd, happ4]
  have hne : gs ≠ gx := by have := Mem.get_lt hgs; omega
  have hgx1 : m.size ≤ gx := by have := hgr3.1; omega
  have hg6 := hgr3.trans hgr4
  clear hkeep4 hnew4 hs4 happ4 hgr3 hgr4 hgs
  refine SW_seq (SW_region ?_)
  simp only [zS, reduceIte, Nat.reduceLT, Int.reduceToNat, Int.reduceLE, Int.reduceEq, Int.reduceLT, Nat.reduceEqDiff, Nat.reduceAdd, new_int4, new_sl8, Mem.size_push]
  obtain ⟨M7, hM7⟩ : ∃ M7, M7 = M6.app [some (.cells false 1 [.int .i64 0, .int .i64 4, .int .i64 8, .int .i64 12]), some (.cells false 1 [.int .i64 1, .int .i64 5, .int .i64 9, .int .i64 13]), some (.cells false 1 [.int .i64 2, .int .i64 6, .int .i64 10, .int .i64 14]), some (.cells false 1 [.int .i64 3, .int .i64 7, .int .i64 11, .int .i64 15]), some (.cells false 1 [.int .i64 0, .int .i64 5, .int .i64 10, .int .i64 15]), some (.cells false 1 [.int .i64 1, .int .i64 6, .int .i64 11, .int .i64 12]), some (.cells false 1 [.int .i64 2, .int .i64 7, .int .i64 8, .int .i64 13]), some (.cells false 1 [.int .i64 3, .int .i64 4, .int .i64 9, .int .i64 14]),
    some (.cells false 1 [.slice (some ⟨M6.size, 0, none⟩) 4 4, .slice (some ⟨M6.size + 1, 0, none⟩) 4 4, .slice (some ⟨M6.size + 1 + 1, 0, none⟩) 4 4, .slice (some ⟨M6.size + 1 + 1 + 1, 0, none⟩) 4 4, .slice (some ⟨M6.size + 1 + 1 + 1 + 1, 0, none⟩) 4 4, .slice (some ⟨M6.size + 1 + 1 + 1 + 1 + 1, 0, none⟩) 4 4, .slice (some ⟨M6.size + 1 + 1 + 1 + 1 + 1 + 1, 0, none⟩) 4 4, .slice (some ⟨M6.size + 1 + 1 + 1 + 1 + 1 + 1 + 1, 0, none⟩) 4 4])] := ⟨_, rfl⟩
  have hfold : ∀ (M : Mem) (b0 b1 b2 b3 b4 b5 b6 b7 b8 : Blk), ((((((((M.push b0).push b1).push b2).push b3).push b4).push b5).push b6).push b7).push b8 = M.app [some b0, some b1, some b2, some b3, some b4, some b5, some b6, some b7, some b8] := fun M b0 b1 b2 b3 b4 b5 b6 b7 b8 => by
    simp [Mem.push, Mem.app]
  rw [hfold, ← hM7]
  obtain ⟨B, hB⟩ : ∃ B, B = M6.size := ⟨_, rfl⟩
  have hrow : ∀ r, r < 8 → M7.get (B + r) = some (.cells false 1 ((Cha.rows.getD r []).map natV)) := by
    intro r hr
    rw [hM7]
    refine app_get_new (by omega) ?_
    rw [hB, show M6.size + r - M6.size = r by omega]
    have : r = 0 ∨ r = 1 ∨ r = 2 ∨ r = 3 ∨ r = 4 ∨ r = 5 ∨ r = 6 ∨ r = 7 := by omega
    rcases this with rfl | rfl | rfl | rfl | rfl | rfl | rfl | rfl <;> rfl
  obtain ⟨R, hR⟩ : ∃ R : List Value, R = [.slice (some ⟨M6.size, 0, none⟩) 4 4, .slice (some ⟨M6.size + 1, 0, none⟩) 4 4, .slice (some ⟨M6.size + 1 + 1, 0, none⟩) 4 4, .slice (some ⟨M6.size + 1 + 1 + 1, 0, none⟩) 4 4, .slice (some ⟨M6.size + 1 + 1 + 1 + 1, 0, none⟩) 4 4, .slice (some ⟨M6.size + 1 + 1 + 1 + 1 + 1, 0, none⟩) 4 4, .slice (some ⟨M6.size + 1 + 1 + 1 + 1 + 1 + 1, 0, none⟩) 4 4, .slice (some ⟨M6.size + 1 + 1 + 1 + 1 + 1 + 1 + 1, 0, none⟩) 4 4] := ⟨_, rfl⟩
  have hRr : ∀ r, r < 8 → R[r]? = some (.slice (some ⟨B + r, 0, none⟩) 4 4) := by
    intro r hr
    rw [hR, hB]
    have : r = 0 ∨ r = 1 ∨ r = 2 ∨ r = 3 ∨ r = 4 ∨ r = 5 ∨ r = 6 ∨ r = 7 := by omega
    rcases this with rfl | rfl | rfl | rfl | rfl | rfl | rfl | rfl <;> rfl
  obtain ⟨g9, hg9⟩ : ∃ g9, g9 = M6.size + 1 + 1 + 1 + 1 + 1 + 1 + 1 + 1 := ⟨_, rfl⟩
  have h9 : M7.get g9 = some (.cells false 1 R) := by
    rw [hM7]
    refine app_get_new (by omega) ?_
    rw [hg9, show M6.size + 1 + 1 + 1 + 1 + 1 + 1 + 1 + 1 - M6.size = 8 by omega, hR]
    rfl
  have hs7 : M7.get gs = some (.cells false 1 (S.map natV)) := by rw [hM7, app_get_old (Mem.get_lt hgs4)]; exact hgs4
  have hx7 : M7.get gx = some (.cells false 1 (S.map natV)) := by rw [hM7, app_get_old (Mem.get_lt hgx)]; exact hgx
  have hg7 : Grows m M7 := hg6.trans (by
    rw [hM7]
    exact ⟨by simp [Mem.app, Mem.size], fun b x hb => by rw [app_get_old (Mem.get_lt hb)]; exact hb⟩)
  have hgxB : gx < B := by rw [hB]; exact Mem.get_lt hgx
  rw [← hg9]
  have hg9B : g9 = B + 8 := by omega
  clear hM7 hfold hgs4 hgx hg6 hg9 hB hR
  refine SW_seq (SW_seq (SW_region ?_))
  simp only [zS, reduceIte, Nat.reduceLT, Int.reduceToNat, Int.reduceLE, Int.reduceEq, Int.reduceLT, Nat.reduceEqDiff, Nat.reduceAdd]
  refine SW_block (SW_loopK [7, 8, 9, 10] (fun k f M => ∃ n : Nat, n + k = 10 ∧ f = [(7, .slice (some ⟨gs, 0, none⟩) 16 16), (8, .slice (some ⟨gx, 0, none⟩) 16 16), (9, .slice (some ⟨g9, 0, none⟩) 8 8), (10, .int .i64 (n : Int))] ∧
    M.get gs = some (.cells false 1 (S.map natV)) ∧ M.get gx = some (.cells false 1 ((Cha.dbl S n).map natV)) ∧ M.get g9 = some (.cells false 1 R) ∧ (∀ r, r < 8 → M.get (B + r) = some (.cells false 1 ((Cha.rows.getD r []).map natV))) ∧ Grows m M) 10 ?_ ?_)
  · simp only [zS, reduceIte, Nat.reduceLT, Int.reduceToNat, Int.reduceLE, Int.reduceEq, Int.reduceLT, Nat.reduceEqDiff, Nat.reduceAdd]
    exact ⟨0, rfl, rfl, hs7, hx7, h9, hrow, hg7⟩
  · clear hs7 hx7 h9 hrow hg7
    rintro k f M ⟨n, hn10, rfl, hs7, hx7, h9, hrow, hg7⟩
    have hok := Cha.dbl_ok hSok n
    refine SW_seq (SW_seq (SW_region ?_))
    simp only [zS, reduceIte, Nat.reduceLT, Int.reduceToNat, Int.reduceLE, Int.reduceEq, Int.reduceLT, Nat.reduceEqDiff, Nat.reduceAdd]
    refine SW_cond (decide ((n : Int) < 10)) (by rfl) (fun hc => SW_skip ?_) (fun hc => SW_exit ?_)
    · simp only [zS, reduceIte, Nat.reduceLT, Int.reduceToNat, Int.reduceLE, Int.reduceEq, Int.reduceLT, Nat.reduceEqDiff, Nat.reduceAdd]
      have hnl : n < 10 := by have := of_decide_eq_true hc; omega
      have xn : IntKind.i64.wrap ((n : Int) + 1) = ((n + 1 : Nat) : Int) := by rw [wr (by omega) (by omega)]; omega
      refine SW_seq (SW_block (SW_seq (SW_region ?_)))
      simp only [zS, reduceIte, Nat.reduceLT, Int.reduceToNat, Int.reduceLE, Int.reduceEq, Int.reduceLT, Nat.reduceEqDiff, Nat.reduceAdd]
      refine SW_block (SW_loopK [7, 8, 9, 10, 11] (fun k f M => ∃ r : Nat, r + k = 8 ∧ f = [(7, .slice (some ⟨gs, 0, none⟩) 16 16), (8, .slice (some ⟨gx, 0, none⟩) 16 16), (9, .slice (some ⟨g9, 0, none⟩) 8 8), (10, .int .i64 (n : Int)), (11, .int .i64 (r : Int))] ∧
        M.get gs = some (.cells false 1 (S.map natV)) ∧ M.get gx = some (.cells false 1 ((Cha.inner (Cha.dbl S n) r).map natV)) ∧ M.get g9 = some (.cells false 1 R) ∧ (∀ r, r < 8 → M.get (B + r) = some (.cells false 1 ((Cha.rows.getD r []).map natV))) ∧ Grows m M) 8 ?_ ?_)
      · simp only [zS, reduceIte, Nat.reduceLT, Int.reduceToNat, Int.reduceLE, Int.reduceEq, Int.reduceLT, Nat.reduceEqDiff, Nat.reduceAdd]
        exact ⟨0, rfl, rfl, hs7, hx7, h9, hrow, hg7⟩
      · clear hs7 hx7 h9 hrow hg7
        rintro k2 f M ⟨r, hr8, rfl, hs7, hx7, h9, hrow, hg7⟩
        obtain ⟨x, hx⟩ : ∃ x, x = Cha.inner (Cha.dbl S n) r := ⟨_, rfl⟩
        have hxok : Cha.Ok x := by rw [hx]; exact Cha.inner_ok hok r
        rw [← hx] at hx7
        refine SW_seq (SW_seq (SW_region ?_))
        simp only [zS, reduceIte, Nat.reduceLT, Int.reduceToNat, Int.reduceLE, Int.reduceEq, Int.reduceLT, Nat.reduceEqDiff, Nat.reduceAdd]
        refine SW_cond (decide ((r : Int) < 8)) (by rfl) (fun hc => SW_skip ?_) (fun hc => SW_exit ?_)
        · simp only [zS, reduceIte, Nat.reduceLT, Int.reduceToNat, Int.reduceLE, Int.reduceEq, Int.reduceLT, Nat.reduceEqDiff, Nat.reduceAdd]
          have hrl : r < 8 := by have := of_decide_eq_true hc; omega
          have xr : IntKind.i64.wrap ((r : Int) + 1) = ((r + 1 : Nat) : Int) := by rw [wr (by omega) (by omega)]; omega
          refine SW_seq (SW_block (SW_seq (SW_region ?_)))
          simp only [zS, reduceIte, Nat.reduceLT, Int.reduceToNat, Int.reduceLE, Int.reduceEq, Int.reduceLT, Nat.reduceEqDiff, Nat.reduceAdd, zT, inf_sl, sl_size, row_slice, Tryz.underlying163, h9, Int.toNat_natCast, hRr r hrl]
          refine ⟨by omega, ?_⟩
          have hrr := hrow r hrl
          have hrc : ∀ k, k < 4 → ((Cha.rows.getD r []).map natV)[k]? = some (.int .i64 ((Cha.at r k : Nat) : Int)) := fun k hk => natV_at (by
            have : ∀ r : Fin 8, (Cha.rows.getD r.val []).length = 4 := by decide
            rw [this ⟨r, hrl⟩]; exact hk)
          have hrl0 := Cha.at_lt r 0 hrl (by decide)
          have hrl1 := Cha.at_lt r 1 hrl (by decide)
          have hrl2 := Cha.at_lt r 2 hrl (by decide)
          have hrl3 := Cha.at_lt r 3 hrl (by decide)
          obtain ⟨i0, hi0⟩ : ∃ i, i = Cha.at r 0 := ⟨_, rfl⟩
          obtain ⟨i1, hi1⟩ : ∃ i, i = Cha.at r 1 := ⟨_, rfl⟩
          obtain ⟨i2, hi2⟩ : ∃ i, i = Cha.at r 2 := ⟨_, rfl⟩
          obtain ⟨i3, hi3⟩ : ∃ i, i = Cha.at r 3 := ⟨_, rfl⟩
          have c0 := hrc 0 (by decide)
          have c1 := hrc 1 (by decide)
          have c2 := hrc 2 (by decide)
          have c3 := hrc 3 (by decide)
          rw [← hi0] at c0 hrl0
          rw [← hi1] at c1 hrl1
          rw [← hi2] at c2 hrl2
          rw [← hi3] at c3 hrl3
          have x0 := natV_at (x := x) (i := i0) (by rw [hxok.1]; exact hrl0)
          have x1 := natV_at (x := x) (i := i1) (by rw [hxok.1]; exact hrl1)
          have x2 := natV_at (x := x) (i := i2) (by rw [hxok.1]; exact hrl2)
          have x3 := natV_at (x := x) (i := i3) (by rw [hxok.1]; exact hrl3)
          refine SW_seq (SW_draw hmix 33 (by kernel_rfl) (by kernel_rfl) ?_)
          simp only [zS, reduceIte, Nat.reduceLT, Int.reduceToNat, Int.reduceLE, Int.reduceEq, Int.reduceLT, Nat.reduceEqDiff, Nat.reduceAdd, zT, hrr, hx7, Int.toNat_natCast, Int.toNat_zero, Int.toNat_one, c0, c1, c2, c3, x0, x1, x2, x3]
          refine ⟨by omega, by omega, by omega, by omega, by omega, by omega, by omega, by omega, by kernel_rfl, _, quarter_at _ _ _ _ _ (hxok.2 _) (hxok.2 _) (hxok.2 _) (hxok.2 _), ?_⟩
          simp only [zS, reduceIte, Nat.reduceLT, Int.reduceToNat, Int.reduceLE, Int.reduceEq, Int.reduceLT, Nat.reduceEqDiff, Nat.reduceAdd, List.getElem?_cons_succ, List.getElem?_cons_zero]
          have hstep : Cha.step x r = (((x.set i0 (Cha.quarter (x.getD i0 0) (x.getD i1 0) (x.getD i2 0) (x.getD i3 0)).1).set i1 (Cha.quarter (x.getD i0 0) (x.getD i1 0) (x.getD i2 0) (x.getD i3 0)).2.1).set i2 (Cha.quarter (x.getD i0 0) (x.getD i1 0) (x.getD i2 0) (x.getD i3 0)).2.2.1).set i3 (Cha.quarter (x.getD i0 0) (x.getD i1 0) (x.getD i2 0) (x.getD i3 0)).2.2.2 := by
            rw [hi0, hi1, hi2, hi3]; rfl
          obtain ⟨y, hy⟩ : ∃ y, y = Cha.quarter (x.getD i0 0) (x.getD i1 0) (x.getD i2 0) (x.getD i3 0) := ⟨_, rfl⟩
          rw [← hy] at hstep ⊢
          have hother : ∀ (M : Mem) (o : Option Blk) (b : Nat), b ≠ gx → (M.set gx o).get b = M.get b := fun M o b hb => Mem.get_set_ne (Ne.symm hb) o
          clear hi0 hi1 hi2 hi3 x0 x1 x2 x3
          refine SW_keep [7, 8, 9, 10, 11, 12, 13, 14, 15, 16] ?_
          simp only [zS, reduceIte, Nat.reduceLT, Int.reduceToNat, Int.reduceLE, Int.reduceEq, Int.reduceLT, Nat.reduceEqDiff, Nat.reduceAdd]
          have hst0 := store_int hx7 (i := i0) (by simp [hxok.1]; omega) ((y.1 : Nat) : Int)
          rw [natV_set] at hst0
          refine SW_seq (SW_region ?_)
          simp only [zS, reduceIte, Nat.reduceLT, Int.reduceToNat, Int.reduceLE, Int.reduceEq, Int.reduceLT, Nat.reduceEqDiff, Nat.reduceAdd, zT, hrr, hx7, Int.toNat_natCast, Int.toNat_zero, Int.toNat_one, c0, hst0]
          refine ⟨by omega, by simp; omega, ?_⟩
          obtain ⟨M0, hM0⟩ : ∃ M', M' = Mem.set M gx (some (.cells false 1 ((x.set i0 y.1).map natV))) := ⟨_, rfl⟩
          rw [← hM0]
          replace hrr : M0.get (B + r) = some (.cells false 1 ((Cha.rows.getD r []).map natV)) := by rw [hM0, hother _ _ _ (by omega)]; exact hrr
          have hx7' : M0.get gx = some (.cells false 1 ((x.set i0 y.1).map natV)) := by rw [hM0]; exact Mem.get_set_same hx7 _
          replace hs7 : M0.get gs = some (.cells false 1 (S.map natV)) := by rw [hM0, hother _ _ _ hne]; exact hs7
          replace h9 : M0.get g9 = some (.cells false 1 R) := by rw [hM0, hother _ _ _ (by omega)]; exact h9
          replace hrow : ∀ r, r < 8 → M0.get (B + r) = some (.cells false 1 ((Cha.rows.getD r []).map natV)) := fun r hr => by rw [hM0, hother _ _ _ (by omega)]; exact hrow r hr
          replace hg7 : Grows m M0 := by rw [hM0]; exact hg7.set hgx1 _
          clear hM0 hst0 hx7
          have hx7 := hx7'
          clear hx7'
          have hst1 := store_int hx7 (i := i1) (by simp [hxok.1]; omega) ((y.2.1 : Nat) : Int)
          rw [natV_set] at hst1
          refine SW_seq (SW_region ?_)
          simp only [zS, reduceIte, Nat.reduceLT, Int.reduceToNat, Int.reduceLE, Int.reduceEq, Int.reduceLT, Nat.reduceEqDiff, Nat.reduceAdd, zT, hrr, hx7, Int.toNat_natCast, Int.toNat_zero, Int.toNat_one, c1, hst1]
          refine ⟨by omega, by simp; omega, ?_⟩
          obtain ⟨M1, hM1⟩ : ∃ M', M' = Mem.set M0 gx (some (.cells false 1 (((x.set i0 y.1).set i1 y.2.1).map natV))) := ⟨_, rfl⟩
          rw [← hM1]
          replace hrr : M1.get (B + r) = some (.cells false 1 ((Cha.rows.getD r []).map natV)) := by rw [hM1, hother _ _ _ (by omega)]; exact hrr
          have hx7' : M1.get gx = some (.cells false 1 (((x.set i0 y.1).set i1 y.2.1).map natV)) := by rw [hM1]; exact Mem.get_set_same hx7 _
          replace hs7 : M1.get gs = some (.cells false 1 (S.map natV)) := by rw [hM1, hother _ _ _ hne]; exact hs7
          replace h9 : M1.get g9 = some (.cells false 1 R) := by rw [hM1, hother _ _ _ (by omega)]; exact h9
          replace hrow : ∀ r, r < 8 → M1.get (B + r) = some (.cells false 1 ((Cha.rows.getD r []).map natV)) := fun r hr => by rw [hM1, hother _ _ _ (by omega)]; exact hrow r hr
          replace hg7 : Grows m M1 := by rw [hM1]; exact hg7.set hgx1 _
          clear hM1 hst1 hx7
          have hx7 := hx7'
          clear hx7'
          have hst2 := store_int hx7 (i := i2) (by simp [hxok.1]; omega) ((y.2.2.1 : Nat) : Int)
          rw [natV_set] at hst2
          refine SW_seq (SW_region ?_)
          simp only [zS, reduceIte, Nat.reduceLT, Int.reduceToNat, Int.reduceLE, Int.reduceEq, Int.reduceLT, Nat.reduceEqDiff, Nat.reduceAdd, zT, hrr, hx7, Int.toNat_natCast, Int.toNat_zero, Int.toNat_one, c2, hst2]
          refine ⟨by omega, by simp; omega, ?_⟩
          obtain ⟨M2, hM2⟩ : ∃ M', M' = Mem.set M1 gx (some (.cells false 1 ((((x.set i0 y.1).set i1 y.2.1).set i2 y.2.2.1).map natV))) := ⟨_, rfl⟩
          rw [← hM2]
          replace hrr : M2.get (B + r) = some (.cells false 1 ((Cha.rows.getD r []).map natV)) := by rw [hM2, hother _ _ _ (by omega)]; exact hrr
          have hx7' : M2.get gx = some (.cells false 1 ((((x.set i0 y.1).set i1 y.2.1).set i2 y.2.2.1).map natV)) := by rw [hM2]; exact Mem.get_set_same hx7 _
          replace hs7 : M2.get gs = some (.cells false 1 (S.map natV)) := by rw [hM2, hother _ _ _ hne]; exact hs7
          replace h9 : M2.get g9 = some (.cells false 1 R) := by rw [hM2, hother _ _ _ (by omega)]; exact h9
          replace hrow : ∀ r, r < 8 → M2.get (B + r) = some (.cells false 1 ((Cha.rows.getD r []).map natV)) := fun r hr => by rw [hM2, hother _ _ _ (by omega)]; exact hrow r hr
          replace hg7 : Grows m M2 := by rw [hM2]; exact hg7.set hgx1 _
          clear hM2 hst2 hx7
          have hx7 := hx7'
          clear hx7'
          have hst3 := store_int hx7 (i := i3) (by simp [hxok.1]; omega) ((y.2.2.2 : Nat) : Int)
          rw [natV_set] at hst3
          refine (SW_region ?_)
          simp only [zS, reduceIte, Nat.reduceLT, Int.reduceToNat, Int.reduceLE, Int.reduceEq, Int.reduceLT, Nat.reduceEqDiff, Nat.reduceAdd, zT, hrr, hx7, Int.toNat_natCast, Int.toNat_zero, Int.toNat_one, c3, hst3]
          refine ⟨by omega, by simp; omega, ?_⟩
          obtain ⟨M3, hM3⟩ : ∃ M', M' = Mem.set M2 gx (some (.cells false 1 (((((x.set i0 y.1).set i1 y.2.1).set i2 y.2.2.1).set i3 y.2.2.2).map natV))) := ⟨_, rfl⟩
          rw [← hM3]
          replace hrr : M3.get (B + r) = some (.cells false 1 ((Cha.rows.getD r []).map natV)) := by rw [hM3, hother _ _ _ (by omega)]; exact hrr
          have hx7' : M3.get gx = some (.cells false 1 (((((x.set i0 y.1).set i1 y.2.1).set i2 y.2.2.1).set i3 y.2.2.2).map natV)) := by rw [hM3]; exact Mem.get_set_same hx7 _
          replace hs7 : M3.get gs = some (.cells false 1 (S.map natV)) := by rw [hM3, hother _ _ _ hne]; exact hs7
          replace h9 : M3.get g9 = some (.cells false 1 R) := by rw [hM3, hother _ _ _ (by omega)]; exact h9
          replace hrow : ∀ r, r < 8 → M3.get (B + r) = some (.cells false 1 ((Cha.rows.getD r []).map natV)) := fun r hr => by rw [hM3, hother _ _ _ (by omega)]; exact hrow r hr
          replace hg7 : Grows m M3 := by rw [hM3]; exact hg7.set hgx1 _
          clear hM3 hst3 hx7
          have hx7 := hx7'
          clear hx7'
          refine SW_region ?_
          simp only [zS, reduceIte, Nat.reduceLT, Int.reduceToNat, Int.reduceLE, Int.reduceEq, Int.reduceLT, Nat.reduceEqDiff, Nat.reduceAdd, xr]
          refine ⟨k2 - 1, ⟨r + 1, by omega, rfl, hs7, ?_, h9, hrow, hg7⟩, by omega⟩
          rw [show Cha.inner (Cha.dbl S n) (r + 1) = Cha.step x r by rw [hx]; rfl, hstep]
          exact hx7
        · simp only [zS, reduceIte, Nat.reduceLT, Int.reduceToNat, Int.reduceLE, Int.reduceEq, Int.reduceLT, Nat.reduceEqDiff, Nat.reduceAdd]
          have hr8' : r = 8 := by have := of_decide_eq_false hc; omega
          subst hr8'
          refine SW_region ?_
          simp only [zS, reduceIte, Nat.reduceLT, Int.reduceToNat, Int.reduceLE, Int.reduceEq, Int.reduceLT, Nat.reduceEqDiff, Nat.reduceAdd, xn]
          refine ⟨k - 1, ⟨n + 1, by omega, rfl, hs7, ?_, h9, hrow, hg7⟩, by omega⟩
          rw [show Cha.dbl S (n + 1) = x by rw [hx]; rfl]
          exact hx7
    · simp only [zS, reduceIte, Nat.reduceLT, Int.reduceToNat, Int.reduceLE, Int.reduceEq, Int.reduceLT, Nat.reduceEqDiff, Nat.reduceAdd]
      have hn10' : n = 10 := by have := of_decide_eq_false hc; omega
      subst hn10'
      obtain ⟨X, hX⟩ : ∃ X, X = Cha.dbl S 10 := ⟨_, rfl⟩
      rw [← hX] at hx7 hok
      clear h9 hrow hc
      refine SW_seq (SW_region ?_)
      simp only [zS, reduceIte, Nat.reduceLT, Int.reduceToNat, Int.reduceLE, Int.reduceEq, Int.reduceLT, Nat.reduceEqDiff, Nat.reduceAdd]
      refine SW_seq (SW_seq (SW_region ?_))
      simp only [zS, reduceIte, Nat.reduceLT, Int.reduceToNat, Int.reduceLE, Int.reduceEq, Int.reduceLT, Nat.reduceEqDiff, Nat.reduceAdd]
      refine SW_block (SW_loopK [7, 8, 17, 18] (fun k f M' => ∃ (u : Nat) (o : Value), u + k = 16 ∧ f = [(7, .slice (some ⟨gs, 0, none⟩) 16 16), (8, .slice (some ⟨gx, 0, none⟩) 16 16), (17, o), (18, .int .i64 (u : Int))] ∧ Sl M' o (bytesV (Cha.outN X S u)) ∧ Grows M M' ∧ (∀ g l c, o = .slice (some ⟨g, 0, none⟩) l c → M.size ≤ g)) 16 ?_ ?_)
      · simp only [zS, reduceIte, Nat.reduceLT, Int.reduceToNat, Int.reduceLE, Int.reduceEq, Int.reduceLT, Nat.reduceEqDiff, Nat.reduceAdd]
        exact ⟨0, _, rfl, rfl, .inl ⟨rfl, rfl⟩, Grows.refl M, fun g l c e => by cases e⟩
      · rintro k2 f M1 ⟨u, o, hu16, rfl, ho, hgM, hnM⟩
        refine SW_seq (SW_seq (SW_region ?_))
        simp only [zS, reduceIte, Nat.reduceLT, Int.reduceToNat, Int.reduceLE, Int.reduceEq, Int.reduceLT, Nat.reduceEqDiff, Nat.reduceAdd]
        refine SW_cond (decide ((u : Int) < 16)) (by rfl) (fun hc => SW_skip ?_) (fun hc => SW_exit ?_)
        · simp only [zS, reduceIte, Nat.reduceLT, Int.reduceToNat, Int.reduceLE, Int.reduceEq, Int.reduceLT, Nat.reduceEqDiff, Nat.reduceAdd]
          have hul : u < 16 := by have := of_decide_eq_true hc; omega
          have xu : IntKind.i64.wrap ((u : Int) + 1) = ((u + 1 : Nat) : Int) := by rw [wr (by omega) (by omega)]; omega
          have p1 := hgM.2 _ _ hs7
          have p2 := hgM.2 _ _ hx7
          have d1 := natV_at (x := S) (i := u) (by rw [hSok.1]; exact hul)
          have d2 := natV_at (x := X) (i := u) (by rw [hok.1]; exact hul)
          obtain ⟨w, hw⟩ : ∃ w, w = Cha.add (X.getD u 0) (S.getD u 0) := ⟨_, rfl⟩
          have hwl : w < 4294967296 := by rw [hw]; exact Cha.add_lt _ _
          refine SW_seq (SW_block (SW_seq (SW_draw hmix 10 (by kernel_rfl) (by kernel_rfl) ?_)))
          simp only [zS, reduceIte, Nat.reduceLT, Int.reduceToNat, Int.reduceLE, Int.reduceEq, Int.reduceLT, Nat.reduceEqDiff, Nat.reduceAdd, zT, p1, p2, Int.toNat_natCast, d1, d2, a32 _ _ (hok.2 u) (hSok.2 u), ← hw]
          refine ⟨by omega, by omega, ?_⟩
          refine SW_seq (SW_region ?_)
          simp only [zS, reduceIte, Nat.reduceLT, Int.reduceToNat, Int.reduceLE, Int.reduceEq, Int.reduceLT, Nat.reduceEqDiff, Nat.reduceAdd]
          refine SW_block (SW_loopK [7, 8, 17, 18, 19, 20] (fun k f M' => ∃ (e : Nat) (o : Value), e + k = 4 ∧ f = [(7, .slice (some ⟨gs, 0, none⟩) 16 16), (8, .slice (some ⟨gx, 0, none⟩) 16 16), (17, o), (18, .int .i64 (u : Int)), (19, .int .i64 ((w / 256 ^ e : Nat) : Int)), (20, .int .i64 (e : Int))] ∧ Sl M' o (bytesV (Cha.outN X S u ++ (Cha.le w 4).take e)) ∧ Grows M M' ∧ (∀ g l c, o = .slice (some ⟨g, 0, none⟩) l c → M.size ≤ g)) 4 ?_ ?_)
          · simp only [zS, reduceIte, Nat.reduceLT, Int.reduceToNat, Int.reduceLE, Int.reduceEq, Int.reduceLT, Nat.reduceEqDiff, Nat.reduceAdd]
            exact ⟨0, _, rfl, by simp, by simpa using ho, hgM, hnM⟩
          · clear ho hgM hnM p1 p2
            rintro k3 f M2 ⟨e, o, he4, rfl, ho, hgM, hnM⟩
            refine SW_seq (SW_seq (SW_region ?_))
            simp only [zS, reduceIte, Nat.reduceLT, Int.reduceToNat, Int.reduceLE, Int.reduceEq, Int.reduceLT, Nat.reduceEqDiff, Nat.reduceAdd]
            refine SW_cond (decide ((e : Int) < 4)) (by rfl) (fun hc => SW_skip ?_) (fun hc => SW_exit ?_)
            · simp only [zS, reduceIte, Nat.reduceLT, Int.reduceToNat, Int.reduceLE, Int.reduceEq, Int.reduceLT, Nat.reduceEqDiff, Nat.reduceAdd]
              have hel : e < 4 := by have := of_decide_eq_true hc; omega
              have xe : IntKind.i64.wrap ((e : Int) + 1) = ((e + 1 : Nat) : Int) := by rw [wr (by omega) (by omega)]; omega
              have hdv : w / 256 ^ e ≤ w := Nat.div_le_self _ _
              have hby : Value.int .u8 (bits .and .i64 ((w / 256 ^ e : Nat) : Int) 255 % 256) = byteV (UInt8.ofNat (w / 256 ^ e % 256)) := by
                have e2 := i64_and_nat (w / 256 ^ e) 255 (by omega) (by omega)
                rw [show w / 256 ^ e &&& 255 = w / 256 ^ e % 256 from Nat.and_two_pow_sub_one_eq_mod _ 8] at e2
                unfold byteV
                congr 1
                refine (congrArg (· % 256) e2).trans ?_
                rw [UInt8.toNat_ofNat']
                omega
              have hsh : ((w / 256 ^ e : Nat) : Int).fdiv (2 ^ min 8 IntKind.i64.bits) = ((w / 256 ^ (e + 1) : Nat) : Int) := by
                rw [bits_i64, Nat.pow_succ, ← Nat.div_div_eq_div_mul]
                exact Int.fdiv_eq_ediv_of_nonneg _ (by decide)
              have hlen : (bytesV (Cha.outN X S u ++ (Cha.le w 4).take e)).length ≤ 100 := by
                have h1 : (Cha.outN X S u).length = 4 * u := outN_length X S u
                simp only [bytesV, List.length_map, List.length_append, h1, List.length_take]
                omega
              obtain ⟨s', m2, happ, hs', hgr', hnew'⟩ := ho.app_u8 hgM hnM (.int .u8 (bits .and .i64 ((w / 256 ^ e : Nat) : Int) 255 % 256)) (by omega)
              have hcat : bytesV (Cha.outN X S u ++ (Cha.le w 4).take e) ++ [Value.int .u8 (bits .and .i64 ((w / 256 ^ e : Nat) : Int) 255 % 256)] = bytesV (Cha.outN X S u ++ (Cha.le w 4).take (e + 1)) := by
                rw [hby, List.take_add_one, le_get w 4 e hel]
                simp [bytesV]
              rw [hcat] at hs'
              refine SW_seq (SW_block (SW_seq (SW_region ?_)))
              simp only [zS, reduceIte, Nat.reduceLT, Int.reduceToNat, Int.reduceLE, Int.reduceEq, Int.reduceLT, Nat.reduceEqDiff, Nat.reduceAdd, zT, wrap_u8, happ]
              refine SW_region ?_
              simp only [zS, reduceIte, Nat.reduceLT, Int.reduceToNat, Int.reduceLE, Int.reduceEq, Int.reduceLT, Nat.reduceEqDiff, Nat.reduceAdd, hsh]
              refine SW_region ?_
              simp only [zS, reduceIte, Nat.reduceLT, Int.reduceToNat, Int.reduceLE, Int.reduceEq, Int.reduceLT, Nat.reduceEqDiff, Nat.reduceAdd, xe]
              exact ⟨k3 - 1, ⟨e + 1, s', by omega, rfl, hs', hgr', hnew'⟩, by omega⟩
            · simp only [zS, reduceIte, Nat.reduceLT, Int.reduceToNat, Int.reduceLE, Int.reduceEq, Int.reduceLT, Nat.reduceEqDiff, Nat.reduceAdd]
              have he4' : e = 4 := by have := of_decide_eq_false hc; omega
              subst he4'
              refine SW_region ?_
              simp only [zS, reduceIte, Nat.reduceLT, Int.reduceToNat, Int.reduceLE, Int.reduceEq, Int.reduceLT, Nat.reduceEqDiff, Nat.reduceAdd, xu]
              refine ⟨k2 - 1, ⟨u + 1, o, by omega, rfl, ?_, hgM, hnM⟩, by omega⟩
              have : Cha.outN X S (u + 1) = Cha.outN X S u ++ (Cha.le w 4).take 4 := by
                rw [hw]; simp [Cha.outN, List.range_succ, Cha.le]
              rw [this]
              exact ho
        · simp only [zS, reduceIte, Nat.reduceLT, Int.reduceToNat, Int.reduceLE, Int.reduceEq, Int.reduceLT, Nat.reduceEqDiff, Nat.reduceAdd]
          have hu16' : u = 16 := by have := of_decide_eq_false hc; omega
          subst hu16'
          refine SW_seq (SW_region ?_)
          simp only [zS, reduceIte, Nat.reduceLT, Int.reduceToNat, Int.reduceLE, Int.reduceEq, Int.reduceLT, Nat.reduceEqDiff, Nat.reduceAdd]
          refine SW_ret ?_
          simp only [zS, reduceIte, Nat.reduceLT, Int.reduceToNat, Int.reduceLE, Int.reduceEq, Int.reduceLT, Nat.reduceEqDiff, Nat.reduceAdd, sAnswer, sAnswer.sRes]
          refine ⟨?_, hg7.trans hgM, fun g l c e => Nat.le_trans hg7.1 (hnM g l c e)⟩
          rw [Cha.block, ← hS, ← hX]
          exact ho
end Go.Proofs.YtpmgackgcefalaaGreat
namespace Go.Proofs.YtpmgackgcefalaaGreat
open Go.RowKit Abs
theorem Cha.block_length (key nonce : List UInt8) (c : Nat) : (Cha.block key nonce c).length = 64 := by rw [Cha.block, outN_length]
def Cha.xorAt (key nonce : List UInt8) (c : Nat) (l : List UInt8) (i : Nat) : UInt8 := (Cha.block key nonce (c + i / 64)).getD (i % 64) 0 ^^^ l.getD i 0
def Cha.xorN (key nonce : List UInt8) (c : Nat) (l : List UInt8) (n : Nat) : List UInt8 := (List.range n).map (Cha.xorAt key nonce c l)
theorem aUn_not (b : Bool) : aUn .not (.bool b) = some (.bool !b) := rfl
set_option maxRecDepth 100000 in
theorem cright_spec (m : Mem) (key nonce : ByteArray) (c : Nat) (hk : key.size = 32) (hn : nonce.size = 12) (hc : c ≤ 4294967295) :
    Abs.Spec Tryz.prog 102 [.string key, .string nonce, .int .i64 (c : Int)] m fun v _ => v = .bool true := by
  have e1 : bsize key = 32 := by rw [bsize_data, hk]
  have e2 : bsize nonce = 12 := by rw [bsize_data, hn]
  have e3 : decide ((c : Int) ≥ 0) = true := by simp
  have e4 : decide ((c : Int) ≤ 4294967295) = true := by simp; omega
  have e5 : (((32 : Nat) : Int) == 32) = true := rfl
  have e6 : (((12 : Nat) : Int) == 12) = true := rfl
  refine Abs.Spec.walk Tryz.func102 (by rfl) _ Tryz.results102 _ Tryz.ntmps102 (by simp) ?_
  refine SW_seq (SW_region ?_)
  simp only [zS, reduceIte, Nat.reduceLT, Int.reduceToNat, Int.reduceLE, Int.reduceEq, Int.reduceLT, Nat.reduceEqDiff, Nat.reduceAdd]
  refine SW_seq (SW_region ?_)
  simp only [zS, reduceIte, Nat.reduceLT, Int.reduceToNat, Int.reduceLE, Int.reduceEq, Int.reduceLT, Nat.reduceEqDiff, Nat.reduceAdd, zT, e1, e2, e3, e4, e5, e6, Region.wanted, beq_self_eq_true, List.getElem?_cons_succ, List.getElem?_cons_zero]
  refine SW_ret ?_
  simp only [zS, reduceIte, Nat.reduceLT, Int.reduceToNat, Int.reduceLE, Int.reduceEq, Int.reduceLT, Nat.reduceEqDiff, Nat.reduceAdd, sAnswer, sAnswer.sRes]
theorem cright_at (M : Mem) (key nonce : ByteArray) (c : Nat) (hk : key.size = 32) (hn : nonce.size = 12) (hc : c ≤ 4294967295) :
    Abs.Spec Tryz.prog 102 [.string key, .string nonce, .int .i64 (c : Int)] M fun v M' => v = .bool true ∧ M' = M :=
  Abs.Spec.of_flat (by intro x hx; simp at hx; rcases hx with rfl | rfl | rfl <;> rfl) rfl fun w => Calls.of_flat_val (by intro x hx; simp at hx; rcases hx with rfl | rfl | rfl <;> rfl) rfl (cright_spec ⟨[]⟩ key nonce c hk hn hc) w
set_option maxRecDepth 100000 in
set_option maxHeartbeats 2000000 in
theorem xor_spec (m : Mem) (key nonce s : ByteArray) (c : Nat) (hk : key.size = 32) (hn : nonce.size = 12) (hc : c ≤ 1000) (hs : s.size ≤ 1000000) (hs0 : 0 < s.size) :
    Abs.Spec Tryz.prog 84 [.string key, .string nonce, .int .i64 (c : Int), .string s] m fun v _ => v = .tuple #[.string (str (Cha.xorN key.data.toList nonce.data.toList c s.data.toList s.size)), .int .i64 0] := by
  obtain ⟨xs, hxs⟩ : ∃ xs, xs = Cha.xorN key.data.toList nonce.data.toList c s.data.toList := ⟨_, rfl⟩
  have hxl : ∀ n, (xs n).length = n := fun n => by rw [hxs]; simp [Cha.xorN]
  have hbs : bsize s = s.size := bsize_data s
  obtain ⟨nb, hnb⟩ : ∃ nb, nb = (s.size + 63) / 64 := ⟨_, rfl⟩
  rw [← hxs]
  have w1 : IntKind.i64.wrap ((s.size : Int) + 63) = ((s.size + 63 : Nat) : Int) := by rw [wr (by omega) (by omega)]; omega
  have w2 : IntKind.i64.wrap (((s.size + 63 : Nat) : Int).tdiv 64) = (nb : Int) := by
    have : ((s.size + 63 : Nat) : Int).tdiv 64 = ((((s.size + 63) / 64 : Nat)) : Int) := rfl
    rw [this, ← hnb, wr (by omega) (by omega)]
  have w3 : IntKind.i64.wrap ((nb : Int) - 1) = ((nb - 1 : Nat) : Int) := by rw [wr (by omega) (by omega)]; omega
  have w4 : IntKind.i64.wrap (4294967295 - (c : Int)) = ((4294967295 - c : Nat) : Int) := by rw [wr (by omega) (by omega)]; omega
  have q0 : ((64 : Int) = 0) = False := by simp
  refine Abs.Spec.walk Tryz.func84 (by rfl) _ Tryz.results84 _ Tryz.ntmps84 (by simp) ?_
  refine SW_seq (SW_region ?_)
  simp only [zS, reduceIte, Nat.reduceLT, Int.reduceToNat, Int.reduceLE, Int.reduceEq, Int.reduceLT, Nat.reduceEqDiff, Nat.reduceAdd]
  refine SW_seq (SW_seq (SW_region ?_))
  simp only [zS, reduceIte, Nat.reduceLT, Int.reduceToNat, Int.reduceLE, Int.reduceEq, Int.reduceLT, Nat.reduceEqDiff, Nat.reduceAdd]
  refine ⟨by kernel_rfl, _, cright_at _ key nonce c hk hn (by omega), ?_⟩
  rintro _ M1 ⟨rfl, hM⟩
  simp only [zS, reduceIte, Nat.reduceLT, Int.reduceToNat, Int.reduceLE, Int.reduceEq, Int.reduceLT, Nat.reduceEqDiff, Nat.reduceAdd, aUn_not, Bool.not_true]
  refine SW_cond false (by rfl) (fun h => by cases h) (fun _ => SW_skip ?_)
  simp only [zS, reduceIte, Nat.reduceLT, Int.reduceToNat, Int.reduceLE, Int.reduceEq, Int.reduceLT, Nat.reduceEqDiff, Nat.reduceAdd]
  refine SW_seq (SW_region ?_)
  simp only [zS, reduceIte, Nat.reduceLT, Int.reduceToNat, Int.reduceLE, Int.reduceEq, Int.reduceLT, Nat.reduceEqDiff, Nat.reduceAdd, zT, hbs, w1, q0, w2]
  refine SW_seq (SW_seq (SW_region ?_))
  simp only [zS, reduceIte, Nat.reduceLT, Int.reduceToNat, Int.reduceLE, Int.reduceEq, Int.reduceLT, Nat.reduceEqDiff, Nat.reduceAdd, w3, w4]
  refine SW_cond (decide (((nb - 1 : Nat) : Int) > ((4294967295 - c : Nat) : Int))) (by rfl) (fun h => by have := of_decide_eq_true h; omega) (fun _ => SW_skip ?_)
  simp only [zS, reduceIte, Nat.reduceLT, Int.reduceToNat, Int.reduceLE, Int.reduceEq, Int.reduceLT, Nat.reduceEqDiff, Nat.reduceAdd]
  refine SW_seq (SW_region ?_)
  simp only [zS, reduceIte, Nat.reduceLT, Int.reduceToNat, Int.reduceLE, Int.reduceEq, Int.reduceLT, Nat.reduceEqDiff, Nat.reduceAdd]
  refine SW_seq (SW_seq (SW_region ?_))
  simp only [zS, reduceIte, Nat.reduceLT, Int.reduceToNat, Int.reduceLE, Int.reduceEq, Int.reduceLT, Nat.reduceEqDiff, Nat.reduceAdd]
  refine SW_block (SW_loopK [0, 1, 2, 3, 10, 11, 12] (fun n f M => ∃ (k : Nat) (o : Value), k + n = nb ∧ f = [(0, .string key), (1, .string nonce), (2, .int .i64 (c : Int)), (3, .string s), (10, .int .i64 (nb : Int)), (11, o), (12, .int .i64 (k : Int))] ∧ Sl M o (bytesV (xs (min (64 * k) s.size))) ∧ Grows m M ∧ (∀ g l c, o = .slice (some ⟨g, 0, none⟩) l c → m.size ≤ g)) nb ?_ ?_)
  · simp only [zS, reduceIte, Nat.reduceLT, Int.reduceToNat, Int.reduceLE, Int.reduceEq, Int.reduceLT, Nat.reduceEqDiff, Nat.reduceAdd]
    refine ⟨0, _, by omega, rfl, .inl ⟨rfl, ?_⟩, by rw [hM]; exact Grows.refl m, fun g l c e => by cases e⟩
    rw [hxs]; simp [Cha.xorN, bytesV]
  · clear hM
    rintro n f M ⟨k, o, hkn, rfl, ho, hgr, hnew⟩
    refine SW_seq (SW_seq (SW_region ?_))
    simp only [zS, reduceIte, Nat.reduceLT, Int.reduceToNat, Int.reduceLE, Int.reduceEq, Int.reduceLT, Nat.reduceEqDiff, Nat.reduceAdd]
    refine SW_cond (decide ((k : Int) < (nb : Int))) (by rfl) (fun h => SW_skip ?_) (fun h => SW_exit ?_)
    · simp only [zS, reduceIte, Nat.reduceLT, Int.reduceToNat, Int.reduceLE, Int.reduceEq, Int.reduceLT, Nat.reduceEqDiff, Nat.reduceAdd]
      have hkl : k < nb := by have := of_decide_eq_true h; omega
      have hmin : min (64 * k) s.size = 64 * k := by omega
      rw [hmin] at ho
      have w5 : IntKind.i64.wrap ((c : Int) + (k : Int)) = ((c + k : Nat) : Int) := by rw [wr (by omega) (by omega)]; omega
      have w6 : IntKind.i64.wrap ((k : Int) + 1) = ((k + 1 : Nat) : Int) := by rw [wr (by omega) (by omega)]; omega
      have w7 : IntKind.i64.wrap (64 * (k : Int)) = ((64 * k : Nat) : Int) := by rw [wr (by omega) (by omega)]; omega
      refine SW_seq (SW_block (SW_seq (SW_region ?_)))
      simp only [zS, reduceIte, Nat.reduceLT, Int.reduceToNat, Int.reduceLE, Int.reduceEq, Int.reduceLT, Nat.reduceEqDiff, Nat.reduceAdd, w5]
      refine ⟨by kernel_rfl, _, block_spec M key nonce (c + k) hk hn (by omega), ?_⟩
      rintro vb M1 ⟨hvb, hg1, hn1⟩
      obtain ⟨blk, hblk⟩ : ∃ blk, blk = Cha.block key.data.toList nonce.data.toList (c + k) := ⟨_, rfl⟩
      rw [← hblk] at hvb
      have hbl : blk.length = 64 := by rw [hblk, Cha.block_length]
      have hbvl : (bytesV blk).length = 64 := by simp [bytesV, hbl]
      obtain ⟨gb, rfl, hgb⟩ := hvb.at (by omega)
      rw [hbvl]
      have ho1 : Sl M1 o (bytesV (xs (64 * k))) := by
        rcases ho with h | ⟨g, h1, h2⟩
        · exact .inl h
        · exact .inr ⟨g, h1, hg1.2 _ _ h2⟩
      have hne : ∀ g l c, o = .slice (some ⟨g, 0, none⟩) l c → g ≠ gb := by
        intro g l c e
        have h1 := hn1 gb _ _ (by rw [hbvl])
        rcases ho with ⟨h2, _⟩ | ⟨g', h2, h3⟩
        · rw [h2] at e; cases e
        · rw [h2] at e; cases e
          have := Mem.get_lt h3
          omega
      clear ho hvb hn1
      simp only [zS, reduceIte, Nat.reduceLT, Int.reduceToNat, Int.reduceLE, Int.reduceEq, Int.reduceLT, Nat.reduceEqDiff, Nat.reduceAdd]
      refine SW_seq (SW_region ?_)
      simp only [zS, reduceIte, Nat.reduceLT, Int.reduceToNat, Int.reduceLE, Int.reduceEq, Int.reduceLT, Nat.reduceEqDiff, Nat.reduceAdd]
      refine SW_block (SW_loopK [0, 1, 2, 3, 10, 11, 12, 13, 14] (fun n f M' => ∃ (i : Nat) (o : Value), i + n = 64 ∧ 64 * k + i ≤ s.size ∧ f = [(0, .string key), (1, .string nonce), (2, .int .i64 (c : Int)), (3, .string s), (10, .int .i64 (nb : Int)), (11, o), (12, .int .i64 (k : Int)), (13, .slice (some ⟨gb, 0, none⟩) 64 64), (14, .int .i64 (i : Int))] ∧
        Sl M' o (bytesV (xs (64 * k + i))) ∧ M'.get gb = some (.cells false 1 (bytesV blk)) ∧ Grows m M' ∧ (∀ g l c, o = .slice (some ⟨g, 0, none⟩) l c → m.size ≤ g ∧ g ≠ gb)) 64 ?_ ?_)
      · simp only [zS, reduceIte, Nat.reduceLT, Int.reduceToNat, Int.reduceLE, Int.reduceEq, Int.reduceLT, Nat.reduceEqDiff, Nat.reduceAdd]
        exact ⟨0, _, rfl, by omega, rfl, ho1, hgb, hgr.trans hg1, fun g l c e => ⟨hnew g l c e, hne g l c e⟩⟩
      · clear ho1 hgb hgr hg1 hnew hne
        rintro n2 f M2 ⟨i, o, hin, hle, rfl, ho, hgb, hgr, hnew⟩
        by_cases hi : i < 64
        · have e1 : decide ((i : Int) < 64) = true := by simp; omega
          have w8 : IntKind.i64.wrap (((64 * k : Nat) : Int) + (i : Int)) = ((64 * k + i : Nat) : Int) := by rw [wr (by omega) (by omega)]; omega
          refine SW_seq (SW_seq (SW_region ?_))
          simp only [zS, reduceIte, Nat.reduceLT, Int.reduceToNat, Int.reduceLE, Int.reduceEq, Int.reduceLT, Nat.reduceEqDiff, Nat.reduceAdd, zT, e1, Region.wanted, beq_self_eq_true, List.getElem?_cons_succ, List.getElem?_cons_zero, w7, w8, hbs]
          refine SW_cond (decide (((64 * k + i : Nat) : Int) < (s.size : Int))) (by rfl) (fun h => SW_skip ?_) (fun h => SW_exit ?_)
          · simp only [zS, reduceIte, Nat.reduceLT, Int.reduceToNat, Int.reduceLE, Int.reduceEq, Int.reduceLT, Nat.reduceEqDiff, Nat.reduceAdd]
            have hlt : 64 * k + i < s.size := by have := of_decide_eq_true h; omega
            have w9 : IntKind.i64.wrap ((i : Int) + 1) = ((i + 1 : Nat) : Int) := by rw [wr (by omega) (by omega)]; omega
            obtain ⟨b, hb⟩ : ∃ b, blk[i]? = some b := ⟨blk[i]'(by omega), List.getElem?_eq_getElem (by omega)⟩
            have hbg : (bytesV blk)[i]? = some (.int .u8 (b.toNat : Int)) := by rw [bytesV, List.getElem?_map, hb]; rfl
            have hsi := Abs.index_str s ((64 * k + i : Nat) : Int) (64 * k + i) rfl hlt
            obtain ⟨d, hd⟩ : ∃ d, d = s.data.toList.getD (64 * k + i) 0 := ⟨_, rfl⟩
            rw [← hd] at hsi
            have hbl' := UInt8.toNat_lt b
            have hdl' := UInt8.toNat_lt d
            have v1 : IntKind.i64.wrap (b.toNat : Int) = (b.toNat : Int) := wr (by omega) (by omega)
            have v2 : IntKind.i64.wrap (d.toNat : Int) = (d.toNat : Int) := wr (by omega) (by omega)
            have hol : (bytesV (xs (64 * k + i))).length = 64 * k + i := by simp [bytesV, hxl]
            have hgrb : Grows M2 M2 := Grows.refl M2
            obtain ⟨s', m2, happ, hs', hgr', hnew'⟩ := ho.app_u8 hgr (fun g l c e => (hnew g l c e).1) (.int .u8 (bits .xor .i64 (b.toNat : Int) (d.toNat : Int) % 256)) (by omega)
            have hcat : bytesV (xs (64 * k + i)) ++ [Value.int .u8 (bits .xor .i64 (b.toNat : Int) (d.toNat : Int) % 256)] = bytesV (xs (64 * k + (i + 1))) := by
              rw [xor_byte]
              have : xs (64 * k + (i + 1)) = xs (64 * k + i) ++ [b ^^^ d] := by
                have hat : Cha.xorAt key.data.toList nonce.data.toList c s.data.toList (64 * k + i) = b ^^^ d := by
                  unfold Cha.xorAt
                  rw [show (64 * k + i) / 64 = k by omega, show (64 * k + i) % 64 = i by omega, ← hblk, ← hd, List.getD, hb]; rfl
                rw [hxs, ← hat, ← Nat.add_assoc]
                simp [Cha.xorN, List.range_succ]
              rw [this]
              simp [bytesV]
            rw [hcat] at hs'
            have hkeep : m2.get gb = some (.cells false 1 (bytesV blk)) ∧ (∀ g l c, s' = .slice (some ⟨g, 0, none⟩) l c → g ≠ gb) := by
              rcases ho with ⟨rfl, h0⟩ | ⟨g, rfl, hg⟩
              · have := app_nil Tryz.underlying99 inf_u8 u8_zero u8_size rfl M2 (.int .u8 (bits .xor .i64 (b.toNat : Int) (d.toNat : Int) % 256)) (by rw [u8_bytes]; decide)
                rw [this] at happ
                cases happ
                have hlt2 := Mem.get_lt hgb
                refine ⟨?_, fun g l c e => by cases e; omega⟩
                rw [Mem.get_push_old (by rw [Mem.size_push]; omega), Mem.get_push_old hlt2]; exact hgb
              · have := app_one Tryz.underlying99 inf_u8 u8_zero u8_size rfl M2 (.int .u8 (bits .xor .i64 (b.toNat : Int) (d.toNat : Int) % 256)) hg rfl (by rw [u8_bytes, hol]; omega) (by rw [hol]; omega)
                rw [this] at happ
                cases happ
                have hlt2 := Mem.get_lt hgb
                have hgne := (hnew g _ _ rfl).2
                refine ⟨?_, fun g l c e => by cases e; omega⟩
                rw [Mem.get_push_old (by rw [Mem.size_set, Mem.size_push]; omega), Mem.get_set_ne hgne, Mem.get_push_old hlt2]; exact hgb
            refine SW_seq (SW_block (SW_draw hmix 16 (by kernel_rfl) (by kernel_rfl) ?_))
            simp only [zS, reduceIte, Nat.reduceLT, Int.reduceToNat, Int.reduceLE, Int.reduceEq, Int.reduceLT, Nat.reduceEqDiff, Nat.reduceAdd, zT, hgb, Int.toNat_natCast, hbg, w7, w8, hsi, v1, v2, wrap_u8, happ]
            refine ⟨by omega, ?_⟩
            refine SW_region ?_
            simp only [zS, reduceIte, Nat.reduceLT, Int.reduceToNat, Int.reduceLE, Int.reduceEq, Int.reduceLT, Nat.reduceEqDiff, Nat.reduceAdd, w9]
            exact ⟨n2 - 1, ⟨i + 1, s', by omega, by omega, rfl, hs', hkeep.1, hgr', fun g l c e => ⟨hnew' g l c e, hkeep.2 g l c e⟩⟩, by omega⟩
          · simp only [zS, reduceIte, Nat.reduceLT, Int.reduceToNat, Int.reduceLE, Int.reduceEq, Int.reduceLT, Nat.reduceEqDiff, Nat.reduceAdd]
            have hend : 64 * k + i = s.size := by have := of_decide_eq_false h; omega
            refine SW_region ?_
            simp only [zS, reduceIte, Nat.reduceLT, Int.reduceToNat, Int.reduceLE, Int.reduceEq, Int.reduceLT, Nat.reduceEqDiff, Nat.reduceAdd, w6]
            refine ⟨n - 1, ⟨k + 1, o, by omega, rfl, ?_, hgr, fun g l c e => (hnew g l c e).1⟩, by omega⟩
            rw [show min (64 * (k + 1)) s.size = 64 * k + i by omega]
            exact ho
        · have e1 : decide ((i : Int) < 64) = false := by simp; omega
          refine SW_seq (SW_seq (SW_region ?_))
          have hft : ((some false : Option Bool) == some true) = false := rfl
          simp only [zS, reduceIte, Nat.reduceLT, Int.reduceToNat, Int.reduceLE, Int.reduceEq, Int.reduceLT, Nat.reduceEqDiff, Nat.reduceAdd, zT, e1, hft, Region.wanted, List.getElem?_cons_succ, List.getElem?_cons_zero]
          refine SW_cond false (by rfl) (fun h => by cases h) (fun h => SW_exit ?_)
          simp only [zS, reduceIte, Nat.reduceLT, Int.reduceToNat, Int.reduceLE, Int.reduceEq, Int.reduceLT, Nat.reduceEqDiff, Nat.reduceAdd]
          refine SW_region ?_
          simp only [zS, reduceIte, Nat.reduceLT, Int.reduceToNat, Int.reduceLE, Int.reduceEq, Int.reduceLT, Nat.reduceEqDiff, Nat.reduceAdd, w6]
          refine ⟨n - 1, ⟨k + 1, o, by omega, rfl, ?_, hgr, fun g l c e => (hnew g l c e).1⟩, by omega⟩
          rw [show min (64 * (k + 1)) s.size = 64 * k + i by omega]
          exact ho
    · simp only [zS, reduceIte, Nat.reduceLT, Int.reduceToNat, Int.reduceLE, Int.reduceEq, Int.reduceLT, Nat.reduceEqDiff, Nat.reduceAdd]
      have hkn' : k = nb := by have := of_decide_eq_false h; omega
      subst hkn'
      rw [show min (64 * k) s.size = s.size by omega] at ho
      obtain ⟨go, rfl, hgo⟩ := ho.at (by simp [bytesV, hxl, hs0])
      refine SW_seq (SW_region ?_)
      simp only [zS, reduceIte, Nat.reduceLT, Int.reduceToNat, Int.reduceLE, Int.reduceEq, Int.reduceLT, Nat.reduceEqDiff, Nat.reduceAdd, zT, to_str (n := (bytesV (xs s.size)).length) hgo (by simp [bytesV])]
      refine SW_ret ?_
      simp only [zS, reduceIte, Nat.reduceLT, Int.reduceToNat, Int.reduceLE, Int.reduceEq, Int.reduceLT, Nat.reduceEqDiff, Nat.reduceAdd, sAnswer, sAnswer.sRes]
end Go.Proofs.YtpmgackgcefalaaGreat
namespace Go.Proofs.YtpmgackgcefalaaGreat.Ex
open Go Go.RowKit Abs
set_option maxRecDepth 100000
def encL : List UInt8 := [175, 34, 229, 180, 255, 21, 238, 119, 141, 240, 208, 107, 121, 237, 247, 0, 95, 110, 181, 1, 138, 51, 88, 151, 210, 77, 244, 6, 35, 6, 210, 24]
def nonceL : List UInt8 := [83, 76, 68, 71, 0, 0, 0, 0, 0, 0, 0, 0]
def chunkL : List UInt8 := [104, 101, 108, 108, 111, 0, 0, 0, 0, 0, 0, 0, 0, 0, 0, 0, 0, 0, 0, 0, 0, 0, 0, 0, 0, 0, 0, 0, 0, 0, 0, 0, 0, 0, 0, 0, 0, 0, 0, 0, 0, 0, 0, 0, 0, 0, 0, 0, 0, 0, 0, 0, 0, 0, 0, 0, 0, 0, 0, 0, 0, 0, 0, 0, 0, 0, 0, 0, 0, 0, 0, 0, 0, 0, 0, 0, 0, 0, 0, 0, 0, 0, 0, 0, 0, 0, 0, 0, 0, 0, 0, 0, 0, 0, 0, 0, 0, 0, 0, 0, 0, 0, 0, 0, 0, 0, 0, 0, 0, 0, 0, 0, 0, 0, 0, 0, 0, 0, 0, 0, 0, 0, 0, 0, 0, 0, 0, 0, 0, 0, 0, 0, 0, 0, 0, 0, 0, 0, 0, 0, 0, 0, 0, 0, 0, 0, 0, 0, 0, 0, 0, 0, 0, 0, 0, 0, 0, 0, 0, 0, 0, 0, 0, 0, 0, 0, 0, 0, 0, 0, 0, 0, 0, 0, 0, 0, 0, 0, 0, 0, 0, 0, 0, 0, 0, 0, 0, 0, 0, 0, 0, 0]
def cipherL : List UInt8 := [1, 89, 7, 69, 121, 216, 104, 186, 174, 19, 200, 196, 5, 145, 117, 153, 67, 99, 222, 58, 71, 90, 9, 173, 67, 147, 225, 6, 37, 73, 147, 168, 83, 114, 145, 191, 156, 90, 93, 162, 84, 170, 41, 108, 214, 28, 161, 144, 146, 3, 34, 99, 210, 225, 26, 36, 14, 187, 58, 53, 127, 112, 242, 32, 154, 200, 253, 62, 198, 133, 56, 145, 142, 88, 26, 59, 179, 161, 154, 222, 248, 234, 12, 3, 224, 204, 251, 125, 105, 60, 63, 220, 69, 216, 147, 161, 86, 78, 245, 5, 225, 1, 152, 235, 166, 122, 157, 212, 64, 76, 152, 106, 75, 6, 228, 98, 129, 49, 24, 31, 173, 23, 127, 216, 118, 214, 221, 228, 27, 241, 152, 244, 116, 204, 239, 21, 180, 91, 73, 52, 254, 10, 228, 122, 246, 7, 18, 95, 238, 159, 59, 150, 100, 113, 126, 207, 188, 138, 239, 79, 8, 44, 41, 56, 186, 120, 208, 123, 174, 199, 147, 197, 198, 87, 28, 108, 142, 222, 28, 65, 127, 200, 200, 7, 245, 165, 101, 62, 27, 205, 39, 102]
theorem blk1 : Cha.block encL nonceL 1 = [105, 60, 107, 41, 22, 216, 104, 186, 174, 19, 200, 196, 5, 145, 117, 153, 67, 99, 222, 58, 71, 90, 9, 173, 67, 147, 225, 6, 37, 73, 147, 168, 83, 114, 145, 191, 156, 90, 93, 162, 84, 170, 41, 108, 214, 28, 161, 144, 146, 3, 34, 99, 210, 225, 26, 36, 14, 187, 58, 53, 127, 112, 242, 32] := by kernel_rfl
theorem blk2 : Cha.block encL nonceL 2 = [154, 200, 253, 62, 198, 133, 56, 145, 142, 88, 26, 59, 179, 161, 154, 222, 248, 234, 12, 3, 224, 204, 251, 125, 105, 60, 63, 220, 69, 216, 147, 161, 86, 78, 245, 5, 225, 1, 152, 235, 166, 122, 157, 212, 64, 76, 152, 106, 75, 6, 228, 98, 129, 49, 24, 31, 173, 23, 127, 216, 118, 214, 221, 228] := by kernel_rfl
theorem blk3 : Cha.block encL nonceL 3 = [27, 241, 152, 244, 116, 204, 239, 21, 180, 91, 73, 52, 254, 10, 228, 122, 246, 7, 18, 95, 238, 159, 59, 150, 100, 113, 126, 207, 188, 138, 239, 79, 8, 44, 41, 56, 186, 120, 208, 123, 174, 199, 147, 197, 198, 87, 28, 108, 142, 222, 28, 65, 127, 200, 200, 7, 245, 165, 101, 62, 27, 205, 39, 102] := by kernel_rfl
def xorB (b1 b2 b3 l : List UInt8) : List UInt8 := (List.range 192).map fun i => (if i / 64 = 0 then b1 else if i / 64 = 1 then b2 else b3).getD (i % 64) 0 ^^^ l.getD i 0
theorem xor_three (key nonce l : List UInt8) : Cha.xorN key nonce 1 l 192 = xorB (Cha.block key nonce 1) (Cha.block key nonce 2) (Cha.block key nonce 3) l := by
  refine List.map_congr_left fun i hi => ?_
  have hi := List.mem_range.1 hi
  unfold Cha.xorAt
  congr 1
  have : i / 64 = 0 ∨ i / 64 = 1 ∨ i / 64 = 2 := by omega
  rcases this with h | h | h <;> rw [h] <;> rfl
theorem cipher : Cha.xorN encL nonceL 1 chunkL 192 = cipherL := by
  rw [xor_three, blk1, blk2, blk3]
  kernel_rfl
end Go.Proofs.YtpmgackgcefalaaGreat.Ex
