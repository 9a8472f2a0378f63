/-
  The laws' walks, on the abstract machine; and what comes in, decoded.
  How a law's row follows from its walk, where the walk may use that each text and slice that came in is of what a machine may hold. No condition of its own.
  The law BlameValid, walked; both laws over whatever comes in.
-/
import Derived.Test.YtpmgackgcefalaaGreatPart15
import Derived.Test.YtpmgackgcefalaaGreatPart16
import Derived.Test.YtpmgackgcefalaaGreatPart04
set_option linter.unusedSimpArgs false
set_option linter.unusedVariables false
set_option linter.unusedSectionVars false
set_option linter.unnecessarySimpa false
set_option linter.defProp false
namespace Go.Proofs.YtpmgackgcefalaaGreat
open Go.RowKit Abs
theorem ldT (get : Nat → Option Blk) (b o : Nat) : gLoad Tryz.prog get 27 (.pointer (some ⟨b, o, none⟩)) = rowIn 6 o (get b) := ld_row Tryz.underlying27 (row_struct _) inf_trace rfl get b o
set_option maxRecDepth 100000 in
theorem rep_trace {m : Mem} {cs : List Value} (h : ARep Tryz.prog m reachBytes 27 cs) : ∃ TV tagged inj, cs = Array.toList TV ∧ TraceOk m TV tagged inj := by
  obtain ⟨hl, hf⟩ := h.inv_struct Tryz.underlying27
  have hl : cs.length = 6 := hl
  match cs, hl with
  | [c0, c1, c2, c3, c4, c5], _ =>
  obtain ⟨v0, hs, e0, hr0, hn0, hw0⟩ := ARep.list Header.cells Header.wf (n := 7) Tryz.underlying22 (by kernel_rfl) (fun cs hc => by
    obtain ⟨x, e, hx, _⟩ := rep_header (by decide) hc
    exact ⟨x, e, hx⟩) (hf 0 _ rfl)
  obtain ⟨v1, ss, e1, hr1, hn1, hw1⟩ := ARep.list (fun s => [.string s]) (fun s => s.size ≤ reachBytes) (n := 1) Tryz.underlying23 (by kernel_rfl) (fun cs hc => by
    obtain ⟨s, rfl, hs⟩ := hc.inv_string Tryz.underlying9
    exact ⟨s, rfl, hs⟩) (hf 1 _ rfl)
  rw [← map_flat] at hr1
  have hf2 := (hf 2 _ rfl)
  obtain ⟨_, ha⟩ := hf2.inv_array Tryz.underlying24
  obtain ⟨x0, q0, _⟩ := (ha 0 (by decide)).inv_int Tryz.underlying3
  obtain ⟨x1, q1, _⟩ := (ha 1 (by decide)).inv_int Tryz.underlying3
  obtain ⟨v3, k3, cells3, e3, hr3, _⟩ := (hf 3 _ rfl).inv_slice Tryz.underlying25
  obtain ⟨x4, q4, _⟩ := (hf 4 _ rfl).inv_int Tryz.underlying3
  have one : ∀ {a b : Value}, [a] = [b] → a = b := fun h => by simpa using h
  obtain rfl : c0 = v0 := one e0
  obtain rfl : c1 = v1 := one e1
  obtain rfl : c2 = .int .i64 x0 := one q0
  obtain rfl : c3 = .int .i64 x1 := one q1
  obtain rfl : c4 = v3 := one e3
  obtain rfl : c5 = .int .i64 x4 := one q4
  obtain ⟨p0, j0, rfl⟩ := hr0.len
  obtain ⟨p1, j1, rfl⟩ := hr1.len
  obtain ⟨p3, j3, rfl⟩ := hr3.len
  exact ⟨_, hs, ss, rfl, p0, j0, p1, j1, p3, k3, j3, x0, x1, x4, rfl, ⟨hr0, hw0, hn0.1, hr1, hn1.1, hw1⟩⟩
theorem awake_at (m : Mem) : Abs.Spec Tryz.prog 6 [] m fun u m' => u = .bool true ∧ m' = m :=
  Abs.Spec.of_flat (by simp) rfl fun w => Ex.awake_any w
theorem min_ii (a b : Int) : vMin true [.int .i64 a, .int .i64 b] = some (.int .i64 (min a b)) := by
  simp only [vMin, evMin, aMin2, if_true]
  congr 2
  by_cases h : b < a
  · rw [if_pos h]; omega
  · rw [if_neg h]; omega
def LightB (inj : List ByteArray) (tl : Nat) (u : Value) : Prop := ∃ b : Bool, u = .bool b ∧ (b = true → (∀ s ∈ inj, s.size ≤ 50000) ∧ inj.length ≤ 101 ∧ tl ≤ 100)
def zB5 := And.intro (And.intro (And.intro (And.intro (Tryz.underlying28) (And.intro Tryz.underlying23 Tryz.underlying22)) (And.intro (And.intro Tryz.underlying32 Tryz.underlying30) (And.intro Tryz.underlying36 Tryz.underlying27))) (And.intro (And.intro (And.intro Tryz.underlying4 @inf_arch) (And.intro @arch_size @ldA)) (And.intro (And.intro @ldH @ldStr) (And.intro @ldSS @ldHs)))) (And.intro (And.intro (And.intro (@ldW) (And.intro @ldInt @ldT)) (And.intro (And.intro @stA @stH) (And.intro @stW @agg_cells))) (And.intro (And.intro (And.intro @Arch.arr @faT0) (And.intro @faT1 @faA0)) (And.intro (And.intro @faA1 @faW0) (And.intro @faW1 @faW2))))
set_option maxRecDepth 100000 in
set_option maxHeartbeats 2000000 in
theorem light_spec (m : Mem) (TV : Array Value) (tagged : List Header) (inj : List ByteArray) (hT : TraceOk m TV tagged inj) :
    Abs.Spec Tryz.prog 5 [.agg TV] m fun u M => LightB inj tagged.length u ∧ M = m := by
  obtain ⟨a1, k1, a2, k2, a3, n3, k3, c1, c2, fl, hTV, htr⟩ := hT
  have hrp : reachBytes = 140737488351232 := rfl
  refine Abs.Spec.walkB Tryz.func5 (by rfl) _ Tryz.results5 _ Tryz.ntmps5 (by simp) m [] (ext_nil m).symm 0 rfl (.inl rfl) ?_
  intro hc hx
  replace hx := hx rfl
  obtain ⟨TC, hTC⟩ : ∃ TC, TC = TV.toList := ⟨_, rfl⟩
  have b1 : nBox Tryz.prog 27 (.agg TV) = some (.cells false (aStride Tryz.prog 27) TC) := by rw [hTC, hTV]; rfl
  have rT : ∀ keep, renL (ren (sig m.size keep) 4) TC = some TC := fun keep => renL_cl (by rw [hTC]; exact Cl.agg (hx _ (by simp))) (by rw [hTC, hTV]; rfl)
  have tc0 : TC[0]? = some (.slice a1 tagged.length k1) := by rw [hTC, hTV]; rfl
  have tc1 : TC[1]? = some (.slice a2 inj.length k2) := by rw [hTC, hTV]; rfl
  have hil := htr.il
  have told : ∀ (b : Bool) (L : List (Option (Option Blk))), (b = true → (∀ s ∈ inj, s.size ≤ 50000) ∧ inj.length ≤ 101 ∧ tagged.length ≤ 100) → ToldB m 0 (.bool b) (ext m L) fun u M => LightB inj tagged.length u ∧ M = m := fun b L h => by
    refine ⟨_, rfl, [], rfl, ?_⟩
    have e : ren (sig m.size []) 4 (.bool b) = some (.bool b) := rfl
    simp only [e, withV_some, renMs, ext_nil, and_true]
    exact ⟨b, rfl, h⟩
  refine CW_seq (CW_region ?_)
  simp only [zZ, reduceIte, Nat.reduceLT, Int.reduceToNat, Int.reduceLE, Int.reduceEq, Int.reduceLT, Nat.reduceEqDiff, Nat.reduceAdd, zB5, b1]
  generalize aStride Tryz.prog 27 = s1
  refine CW_seq (CW_region ?_)
  simp only [zZ, reduceIte, Nat.reduceLT, Int.reduceToNat, Int.reduceLE, Int.reduceEq, Int.reduceLT, Nat.reduceEqDiff, Nat.reduceAdd, zB5]
  refine CW_seq (CW_seq (CW_region ?_))
  simp only [zZ, reduceIte, Nat.reduceLT, Int.reduceToNat, Int.reduceLE, Int.reduceEq, Int.reduceLT, Nat.reduceEqDiff, Nat.reduceAdd, zB5]
  refine CW_block (BW_loop hc (fun n f l => ∃ t N : Nat, t + n = inj.length ∧ f = [(1, .pointer (some ⟨m.size + 0, 0, none⟩)), (3, .int .i64 (N : Int)), (4, .int .i64 (t : Int))] ∧
    l = [some (some (.cells false s1 TC))] ∧ N ≤ 50000 ∧ t ≤ 101 ∧ ∀ s ∈ inj.take t, s.size ≤ 50000) inj.length ?_ ?_)
  · refine ⟨_, rfl, [0], [1, 3, 4], rfl, ?_⟩
    simp only [zZ, reduceIte, Nat.reduceLT, Int.reduceToNat, Int.reduceLE, Int.reduceEq, Int.reduceLT, Nat.reduceEqDiff, Nat.reduceAdd, zG, rT]
    exact ⟨0, 0, by omega, rfl, by omega, by omega, by simp⟩
  · rintro n f l ⟨t, N, htn, rfl, rfl, hN, ht, hall⟩
    refine CW_seq (CW_seq (CW_region ?_))
    simp only [zZ, reduceIte, Nat.reduceLT, Int.reduceToNat, Int.reduceLE, Int.reduceEq, Int.reduceLT, Nat.reduceEqDiff, Nat.reduceAdd, zB5, tc1]
    refine CW_cond (decide ((t : Int) < (inj.length : Int))) (by rfl) (fun h => CW_skip ?_) (fun h => CW_exit ?_)
    · simp only [zZ, reduceIte, Nat.reduceLT, Int.reduceToNat, Int.reduceLE, Int.reduceEq, Int.reduceLT, Nat.reduceEqDiff, Nat.reduceAdd]
      have htl : t < inj.length := by have := of_decide_eq_true h; omega
      have h0 : (0 : Int) ≤ (t : Int) := by omega
      have h1 : (t : Int) < (inj.length : Int) := by omega
      obtain ⟨g, ro, hpa, hgp⟩ := htr.injr.at (by omega)
      have hg : ∀ l, (ext m l).get g = some (.cells ro 1 (inj.map .string)) := fun l => ext_get_old l hgp
      obtain ⟨S, hS⟩ : ∃ S, inj[t]? = some S := ⟨_, List.getElem?_eq_getElem htl⟩
      have hS' : (inj.map Value.string)[t]? = some (.string S) := by rw [List.getElem?_map, hS]; rfl
      subst hpa
      obtain ⟨K, hK⟩ : ∃ K : Nat, K = N + min S.size 1048576 := ⟨_, rfl⟩
      have hKw : IntKind.i64.wrap ((N : Int) + min (S.size : Int) 1048576) = (K : Int) := by
        have : (N : Int) + min (S.size : Int) 1048576 = (K : Int) := by omega
        rw [this, wr (by omega) (by omega)]
      refine CW_seq (CW_block (CW_seq (CW_region ?_)))
      simp only [zZ, reduceIte, Nat.reduceLT, Int.reduceToNat, Int.reduceLE, Int.reduceEq, Int.reduceLT, Nat.reduceEqDiff, Nat.reduceAdd, zB5, h0, h1, and_self, tc1, hg, hS', bsize_data, min_ii, hKw]
      refine CW_seq (CW_region ?_)
      by_cases hbig : 50000 < K
      · have e1 : decide ((K : Int) > 50000) = true := by simp; omega
        simp only [zZ, reduceIte, Nat.reduceLT, Int.reduceToNat, Int.reduceLE, Int.reduceEq, Int.reduceLT, Nat.reduceEqDiff, Nat.reduceAdd, zB5, e1]
        refine CW_cond true (by rfl) (fun _ => CW_seq (CW_region ?_)) (fun h => by cases h)
        simp only [zZ, reduceIte, Nat.reduceLT, Int.reduceToNat, Int.reduceLE, Int.reduceEq, Int.reduceLT, Nat.reduceEqDiff, Nat.reduceAdd, zB5]
        refine CW_ret ?_
        simp only [zZ, reduceIte, Nat.reduceLT, Int.reduceToNat, Int.reduceLE, Int.reduceEq, Int.reduceLT, Nat.reduceEqDiff, Nat.reduceAdd, zB5, bEnd, sAnswer, sAnswer.sRes]
        exact told false _ (fun h => by cases h)
      · have e1 : decide ((K : Int) > 50000) = false := by simp; omega
        by_cases hmany : 100 < t
        · have e2 : decide ((t : Int) > 100) = true := by simp; omega
          simp only [zZ, reduceIte, Nat.reduceLT, Int.reduceToNat, Int.reduceLE, Int.reduceEq, Int.reduceLT, Nat.reduceEqDiff, Nat.reduceAdd, zB5, e1, e2]
          refine CW_cond true (by rfl) (fun _ => CW_seq (CW_region ?_)) (fun h => by cases h)
          simp only [zZ, reduceIte, Nat.reduceLT, Int.reduceToNat, Int.reduceLE, Int.reduceEq, Int.reduceLT, Nat.reduceEqDiff, Nat.reduceAdd, zB5]
          refine CW_ret ?_
          simp only [zZ, reduceIte, Nat.reduceLT, Int.reduceToNat, Int.reduceLE, Int.reduceEq, Int.reduceLT, Nat.reduceEqDiff, Nat.reduceAdd, zB5, bEnd, sAnswer, sAnswer.sRes]
          exact told false _ (fun h => by cases h)
        · have e2 : decide ((t : Int) > 100) = false := by simp; omega
          simp only [zZ, reduceIte, Nat.reduceLT, Int.reduceToNat, Int.reduceLE, Int.reduceEq, Int.reduceLT, Nat.reduceEqDiff, Nat.reduceAdd, zB5, e1, e2]
          refine CW_cond false (by rfl) (fun h => by cases h) (fun _ => CW_skip ?_)
          simp only [zZ, reduceIte, Nat.reduceLT, Int.reduceToNat, Int.reduceLE, Int.reduceEq, Int.reduceLT, Nat.reduceEqDiff, Nat.reduceAdd]
          refine CW_region ?_
          have xi : IntKind.i64.wrap ((t : Int) + 1) = ((t + 1 : Nat) : Int) := by rw [wr (by omega) (by omega)]; omega
          simp only [zZ, reduceIte, Nat.reduceLT, Int.reduceToNat, Int.reduceLE, Int.reduceEq, Int.reduceLT, Nat.reduceEqDiff, Nat.reduceAdd, xi]
          refine ⟨_, rfl, [0], [1, 3, 4], rfl, ?_⟩
          simp only [zZ, reduceIte, Nat.reduceLT, Int.reduceToNat, Int.reduceLE, Int.reduceEq, Int.reduceLT, Nat.reduceEqDiff, Nat.reduceAdd, zG, rT]
          refine ⟨n - 1, ⟨t + 1, K, by omega, rfl, by omega, by omega, fun s hs => ?_⟩, by omega⟩
          rw [List.take_add_one, hS, List.mem_append] at hs
          rcases hs with hs | hs
          · exact hall s hs
          · simp at hs; subst hs; omega
    · simp only [zZ, reduceIte, Nat.reduceLT, Int.reduceToNat, Int.reduceLE, Int.reduceEq, Int.reduceLT, Nat.reduceEqDiff, Nat.reduceAdd]
      have htl : t = inj.length := by have := of_decide_eq_false h; omega
      subst htl
      rw [List.take_length] at hall
      refine CW_seq (CW_region ?_)
      simp only [zZ, reduceIte, Nat.reduceLT, Int.reduceToNat, Int.reduceLE, Int.reduceEq, Int.reduceLT, Nat.reduceEqDiff, Nat.reduceAdd, zB5, tc0]
      refine CW_ret ?_
      simp only [zZ, reduceIte, Nat.reduceLT, Int.reduceToNat, Int.reduceLE, Int.reduceEq, Int.reduceLT, Nat.reduceEqDiff, Nat.reduceAdd, zB5, bEnd, sAnswer, sAnswer.sRes]
      refine told _ _ (fun h => ⟨hall, by omega, ?_⟩)
      have := of_decide_eq_true h
      omega
theorem eqB (cx a b : Bool) : aBin Tryz.prog .eql 4 cx (.bool a) (.bool b) = some (.bool (a == b)) := by cases a <;> cases b <;> kernel_rfl
theorem Arch.wf.grow {m m' : Mem} {B : Nat} {a : Arch} (h : a.wf m B) (hg : Grows m m') : a.wf m' B := ⟨h.1.grow hg, h.2⟩
theorem TraceIn.grow {m m' : Mem} {B : Nat} {tv iv : Value} {tagged : List Header} {inj : List ByteArray} (h : TraceIn m B tv iv tagged inj) (hg : Grows m m') : TraceIn m' B tv iv tagged inj :=
  ⟨h.tag.grow hg, h.wf, h.tl, h.injr.grow hg, h.il, h.is⟩
theorem TraceOk.grow {m m' : Mem} {TV : Array Value} {tagged : List Header} {inj : List ByteArray} (h : TraceOk m TV tagged inj) (hg : Grows m m') : TraceOk m' TV tagged inj := by
  obtain ⟨a1, k1, a2, k2, a3, n3, k3, c1, c2, fl, e, htr⟩ := h
  exact ⟨a1, k1, a2, k2, a3, n3, k3, c1, c2, fl, e, htr.grow hg⟩
end Go.Proofs.YtpmgackgcefalaaGreat
namespace Go.Proofs.YtpmgackgcefalaaGreat
open Go.ChangeShapes Go.WideShapes Go.ChangeAt Go.RowKit
theorem returns_of_walked_sized {C : Checked} {os : Os} {n : FuncId} {f : Func} {s : ChangeSpec} {tb : TypeId} (own : ownKnob C.prog.godebug = none) (started : os.Started)
    (noInit : C.prog.inits.idxOf? n = none) (hf : C.prog.funcs[n]? = some f) (hl : laidOutB C.prog = true)
    (hs : IsLaw s f.params.size) (hr : f.resultTypes = #[tb]) (hu : C.prog.underlying tb = some .bool) (hp : ∀ t ∈ f.params.toList, C.prog.readableRec t = true ∧ t < C.prog.types.size)
    {H : Type} {enc : TypeId × Value → H}
    (witness : ∃ (w : World) (tape : Tape) (i : Input), w.os = os ∧ (w.forCall tape i).Shaped C.prog ∧ i.vars = [] ∧ Input.okWide C.prog (w.forCall tape i) .any w.heap.size n i ∧
      s.pre6 enc C.prog f [] false (w.forCall tape i).memory i.args ∧ Assume.holds {} C.prog (lone (Frame.enter C.prog n i.args .normal) [] (w.forCall tape i)))
    (walk : Walked C.prog n f fun _ ds => ∀ x ∈ DataW.weightsEach C.prog f.params.toList ds, x ≤ reachBytes) :
    ReturnsInHanded {} C os n .any (s.pre6 enc C.prog f [] false) (s.post enc C.prog f false true false false) := by
  refine returnsInHanded_of_change_sized own started noInit hf witness ?_
  intro W base args ds gs before hval hW _ hz _
  obtain ⟨p, q, hA, hV, rfl, hfz, hnd⟩ := id hW
  have hv : s.vars = [] := hs.1
  rw [hv] at hV
  obtain ⟨rfl, rfl⟩ := trodVars_none hV
  rw [List.append_nil] at hz
  have hz' : ∀ x ∈ DataW.weightsEach C.prog f.params.toList ds, x ≤ reachBytes := by
    have e : s.plain.varTypes C.prog = [] := by simp [ChangeSpec.plain, hv, DataSpec.varTypes]
    rw [e, List.append_nil] at hz
    intro x hx
    simpa using List.all_eq_true.1 hz x hx
  refine (walk H enc W base args ds p hval hA hz').mono fun e W' ⟨he, hb⟩ => ?_
  exact ⟨_, he, law_post hl hs hr hu hp hW hb⟩
end Go.Proofs.YtpmgackgcefalaaGreat
namespace Go.Proofs.YtpmgackgcefalaaGreat
open Go.RowKit Abs
def zB6 := And.intro (And.intro (And.intro (And.intro (Tryz.underlying28) (And.intro Tryz.underlying23 Tryz.underlying22)) (And.intro (And.intro Tryz.underlying32 Tryz.underlying30) (And.intro Tryz.underlying36 Tryz.underlying27))) (And.intro (And.intro (And.intro Tryz.underlying4 @inf_arch) (And.intro @arch_size @ldA)) (And.intro (And.intro @ldH @ldStr) (And.intro @ldSS @ldHs)))) (And.intro (And.intro (And.intro (@ldW) (And.intro @ldInt @ldT)) (And.intro (And.intro @stA @stH) (And.intro @stW @agg_cells))) (And.intro (And.intro (And.intro @Arch.arr @faT0) (And.intro @faT1 @faA0)) (And.intro (And.intro @faA1 @faW0) (And.intro @faW1 @faW2))))
set_option maxRecDepth 100000 in
set_option maxHeartbeats 2000000 in
theorem lawok_spec (m : Mem) (secret : ByteArray) (TV : Array Value) (tagged : List Header) (inj : List ByteArray) (r : Int × ByteArray × ByteArray) (hT : TraceOk m TV tagged inj) :
    Abs.Spec Tryz.prog 4 [.string secret, .agg TV, .agg (witC r)] m fun u M => u = .bool true ∧ M = m := by
  have hrp : reachBytes = 140737488351232 := rfl
  obtain ⟨kd, a, b⟩ := r
  refine Abs.Spec.walkB Tryz.func4 (by rfl) _ Tryz.results4 _ Tryz.ntmps4 (by simp) m [] (ext_nil m).symm 0 rfl (.inl rfl) ?_
  intro hc hx
  replace hx := hx rfl
  have hTV : ∃ tv iv a b c d, TV = #[tv, iv, a, b, c, d] ∧ oneAll TV.toList = true := by
    obtain ⟨a1, k1, a2, k2, a3, n3, k3, c1, c2, fl, rfl, htr⟩ := hT
    exact ⟨_, _, _, _, _, _, rfl, rfl⟩
  obtain ⟨_, _, _, _, _, _, hTV6, hTV1⟩ := hTV
  have hT6 : TV.toList.length = 6 := by rw [hTV6]; rfl
  obtain ⟨TC, hTC⟩ : ∃ TC, TC = TV.toList := ⟨_, rfl⟩
  have b1 : nBox Tryz.prog 27 (.agg TV) = some (.cells false (aStride Tryz.prog 27) TC) := by rw [nBox_row _ hTV1, hTC]
  have b2 : nBox Tryz.prog 36 (.agg (witC (kd, a, b))) = some (.cells false (aStride Tryz.prog 36) [.int .i64 kd, .string a, .string b]) := by rfl
  have wT : ∀ s, rowIn 6 0 (some (.cells false s TC)) = some (.agg TV) := fun s => by rw [rowIn_whole (by rw [hTC]; exact hT6), hTC]
  have wW : ∀ s, rowIn 3 0 (some (.cells false s [.int .i64 kd, .string a, .string b])) = some (.agg (witC (kd, a, b))) := fun s => rowIn_whole rfl
  refine CW_seq (CW_region ?_)
  simp only [zZ, reduceIte, Nat.reduceLT, Int.reduceToNat, Int.reduceLE, Int.reduceEq, Int.reduceLT, Nat.reduceEqDiff, Nat.reduceAdd, zB6, b1, b2]
  clear b1 b2
  generalize aStride Tryz.prog 27 = s1
  generalize aStride Tryz.prog 36 = s2
  have told : ∀ (L : List (Option (Option Blk))), ToldB m 0 (.bool true) (ext m L) fun u M => u = .bool true ∧ M = m := fun L => told_flat rfl rfl
  refine CW_seq (CW_seq (CW_region ?_))
  simp only [zZ, reduceIte, Nat.reduceLT, Int.reduceToNat, Int.reduceLE, Int.reduceEq, Int.reduceLT, Nat.reduceEqDiff, Nat.reduceAdd, zB6, wT]
  refine ⟨by kernel_rfl, _, light_spec _ TV tagged inj (hT.grow (Grows.ext m _)), ?_⟩
  rintro _ _ ⟨⟨q, rfl, hq⟩, rfl⟩
  -- the example alone
  cases q with
  | false =>
    simp only [zZ, reduceIte, Nat.reduceLT, Int.reduceToNat, Int.reduceLE, Int.reduceEq, Int.reduceLT, Nat.reduceEqDiff, Nat.reduceAdd, zB6]
    refine CW_cond true (by rfl) (fun _ => CW_seq (CW_region ?_)) (fun h => by cases h)
    simp only [zZ, reduceIte, Nat.reduceLT, Int.reduceToNat, Int.reduceLE, Int.reduceEq, Int.reduceLT, Nat.reduceEqDiff, Nat.reduceAdd, zB6]
    refine ⟨by kernel_rfl, _, awake_at _, ?_⟩
    rintro _ _ ⟨rfl, rfl⟩
    simp only [zZ, reduceIte, Nat.reduceLT, Int.reduceToNat, Int.reduceLE, Int.reduceEq, Int.reduceLT, Nat.reduceEqDiff, Nat.reduceAdd, zB6]
    refine CW_ret ?_
    simp only [zZ, reduceIte, Nat.reduceLT, Int.reduceToNat, Int.reduceLE, Int.reduceEq, Int.reduceLT, Nat.reduceEqDiff, Nat.reduceAdd, zB6, bEnd, sAnswer, sAnswer.sRes]
    exact told _
  | true =>
    have hq := hq rfl
    by_cases l1 : 500 < secret.size
    · have e1 : decide ((secret.size : Int) > 500) = true := by simp; omega
      simp only [zZ, reduceIte, Nat.reduceLT, Int.reduceToNat, Int.reduceLE, Int.reduceEq, Int.reduceLT, Nat.reduceEqDiff, Nat.reduceAdd, zB6, bsize_data, e1]
      refine CW_cond true (by rfl) (fun _ => CW_seq (CW_region ?_)) (fun h => by cases h)
      simp only [zZ, reduceIte, Nat.reduceLT, Int.reduceToNat, Int.reduceLE, Int.reduceEq, Int.reduceLT, Nat.reduceEqDiff, Nat.reduceAdd, zB6]
      refine ⟨by kernel_rfl, _, awake_at _, ?_⟩
      rintro _ _ ⟨rfl, rfl⟩
      simp only [zZ, reduceIte, Nat.reduceLT, Int.reduceToNat, Int.reduceLE, Int.reduceEq, Int.reduceLT, Nat.reduceEqDiff, Nat.reduceAdd, zB6]
      refine CW_ret ?_
      simp only [zZ, reduceIte, Nat.reduceLT, Int.reduceToNat, Int.reduceLE, Int.reduceEq, Int.reduceLT, Nat.reduceEqDiff, Nat.reduceAdd, zB6, bEnd, sAnswer, sAnswer.sRes]
      exact told _
    · have e1 : decide ((secret.size : Int) > 500) = false := by simp; omega
      by_cases l2 : 5000 < a.size
      · have e2 : decide ((a.size : Int) > 5000) = true := by simp; omega
        simp only [zZ, reduceIte, Nat.reduceLT, Int.reduceToNat, Int.reduceLE, Int.reduceEq, Int.reduceLT, Nat.reduceEqDiff, Nat.reduceAdd, zB6, bsize_data, e1, e2]
        refine CW_cond true (by rfl) (fun _ => CW_seq (CW_region ?_)) (fun h => by cases h)
        simp only [zZ, reduceIte, Nat.reduceLT, Int.reduceToNat, Int.reduceLE, Int.reduceEq, Int.reduceLT, Nat.reduceEqDiff, Nat.reduceAdd, zB6]
        refine ⟨by kernel_rfl, _, awake_at _, ?_⟩
        rintro _ _ ⟨rfl, rfl⟩
        simp only [zZ, reduceIte, Nat.reduceLT, Int.reduceToNat, Int.reduceLE, Int.reduceEq, Int.reduceLT, Nat.reduceEqDiff, Nat.reduceAdd, zB6]
        refine CW_ret ?_
        simp only [zZ, reduceIte, Nat.reduceLT, Int.reduceToNat, Int.reduceLE, Int.reduceEq, Int.reduceLT, Nat.reduceEqDiff, Nat.reduceAdd, zB6, bEnd, sAnswer, sAnswer.sRes]
        exact told _
      · have e2 : decide ((a.size : Int) > 5000) = false := by simp; omega
        by_cases l3 : 5000 < b.size
        · have e3 : decide ((b.size : Int) > 5000) = true := by simp; omega
          simp only [zZ, reduceIte, Nat.reduceLT, Int.reduceToNat, Int.reduceLE, Int.reduceEq, Int.reduceLT, Nat.reduceEqDiff, Nat.reduceAdd, zB6, bsize_data, e1, e2, e3]
          refine CW_cond true (by rfl) (fun _ => CW_seq (CW_region ?_)) (fun h => by cases h)
          simp only [zZ, reduceIte, Nat.reduceLT, Int.reduceToNat, Int.reduceLE, Int.reduceEq, Int.reduceLT, Nat.reduceEqDiff, Nat.reduceAdd, zB6]
          refine ⟨by kernel_rfl, _, awake_at _, ?_⟩
          rintro _ _ ⟨rfl, rfl⟩
          simp only [zZ, reduceIte, Nat.reduceLT, Int.reduceToNat, Int.reduceLE, Int.reduceEq, Int.reduceLT, Nat.reduceEqDiff, Nat.reduceAdd, zB6]
          refine CW_ret ?_
          simp only [zZ, reduceIte, Nat.reduceLT, Int.reduceToNat, Int.reduceLE, Int.reduceEq, Int.reduceLT, Nat.reduceEqDiff, Nat.reduceAdd, zB6, bEnd, sAnswer, sAnswer.sRes]
          exact told _
        · have e3 : decide ((b.size : Int) > 5000) = false := by simp; omega
          simp only [zZ, reduceIte, Nat.reduceLT, Int.reduceToNat, Int.reduceLE, Int.reduceEq, Int.reduceLT, Nat.reduceEqDiff, Nat.reduceAdd, zB6, bsize_data, e1, e2, e3]
          refine CW_cond false (by rfl) (fun h => by cases h) (fun _ => CW_skip ?_)
          simp only [zZ, reduceIte, Nat.reduceLT, Int.reduceToNat, Int.reduceLE, Int.reduceEq, Int.reduceLT, Nat.reduceEqDiff, Nat.reduceAdd]
          refine CW_seq (CW_draw hmix 12 (by kernel_rfl) (by kernel_rfl) ?_)
          simp only [zZ, reduceIte, Nat.reduceLT, Int.reduceToNat, Int.reduceLE, Int.reduceEq, Int.reduceLT, Nat.reduceEqDiff, Nat.reduceAdd, zB6, wT, wW]
          refine ⟨by kernel_rfl, _, valid_spec _ secret TV tagged inj (kd, a, b) (hT.grow (Grows.ext m _)) (by omega) (show a.size ≤ _ by omega) (show b.size ≤ _ by omega), ?_⟩
          simp only [zZ, reduceIte, Nat.reduceLT, Int.reduceToNat, Int.reduceLE, Int.reduceEq, Int.reduceLT, Nat.reduceEqDiff, Nat.reduceAdd, zB6, wT]
          refine ⟨by kernel_rfl, _, rvalid_spec _ secret TV tagged inj (kd, a, b) (hT.grow (Grows.ext m _)) (by omega) (show a.size ≤ _ by omega) (show b.size ≤ _ by omega), ?_⟩
          rintro _ _ ⟨rfl, rfl⟩
          simp only [zZ, reduceIte, Nat.reduceLT, Int.reduceToNat, Int.reduceLE, Int.reduceEq, Int.reduceLT, Nat.reduceEqDiff, Nat.reduceAdd, zB6, eqB, beq_self_eq_true]
          refine ⟨by kernel_rfl, _, awake_at _, ?_⟩
          rintro _ _ ⟨rfl, rfl⟩
          simp only [zZ, reduceIte, Nat.reduceLT, Int.reduceToNat, Int.reduceLE, Int.reduceEq, Int.reduceLT, Nat.reduceEqDiff, Nat.reduceAdd, zB6]
          refine CW_ret ?_
          simp only [zZ, reduceIte, Nat.reduceLT, Int.reduceToNat, Int.reduceLE, Int.reduceEq, Int.reduceLT, Nat.reduceEqDiff, Nat.reduceAdd, zB6, bEnd, sAnswer, sAnswer.sRes]
          exact told _
theorem args_one {P : Program} {m : Mem} {B : Nat} {t : TypeId} {ts : List TypeId} {vs : List Value} (h : ArgsOf P m B (t :: ts) vs) : ∃ v r, vs = v :: r ∧ ArgOf P m B t v ∧ ArgsOf P m B ts r := by
  cases h with
  | cons h hs => exact ⟨_, _, rfl, h, hs⟩
theorem args_nil {P : Program} {m : Mem} {B : Nat} {vs : List Value} (h : ArgsOf P m B [] vs) : vs = [] := by cases h; rfl
theorem arg_row {P : Program} {m : Mem} {B : Nat} {t : TypeId} {v : Value} {fs : Array Field} (hu : P.underlying t = some (.struct fs)) (h : ArgOf P m B t v) : ∃ cs : List Value, v = .agg cs.toArray ∧ ARep P m B t cs := by
  unfold ArgOf at h
  rw [hu] at h
  exact h
theorem arg_str {P : Program} {m : Mem} {B : Nat} {t : TypeId} {v : Value} (hu : P.underlying t = some .string) (h : ArgOf P m B t v) : ∃ s, v = .string s ∧ s.size ≤ B := by
  unfold ArgOf at h
  rw [hu] at h
  obtain ⟨s, e, hs⟩ := h.inv_string hu
  exact ⟨s, by simpa using e, hs⟩
set_option maxRecDepth 100000 in
theorem rep_wit {m : Mem} {B : Nat} {cs : List Value} (h : ARep Tryz.prog m B 36 cs) : ∃ r, cs = (witC r).toList := by
  obtain ⟨hl, hf⟩ := h.inv_struct Tryz.underlying36
  have hl : cs.length = 3 := hl
  match cs, hl with
  | [c0, c1, c2], _ =>
  obtain ⟨x0, q0, _⟩ := (hf 0 _ rfl).inv_int Tryz.underlying3
  obtain ⟨x1, q1, _⟩ := (hf 1 _ rfl).inv_string Tryz.underlying9
  obtain ⟨x2, q2, _⟩ := (hf 2 _ rfl).inv_string Tryz.underlying9
  have one : ∀ {a b : Value}, [a] = [b] → a = b := fun h => by simpa using h
  obtain rfl : c0 = .int .i64 x0 := one q0
  obtain rfl : c1 = .string x1 := one q1
  obtain rfl : c2 = .string x2 := one q2
  exact ⟨(x0, x1, x2), rfl⟩
set_option maxRecDepth 100000 in
theorem blameValid_walked : Walked Tryz.prog 4 Tryz.f4 fun _ ds => ∀ x ∈ DataW.weightsEach Tryz.prog Tryz.f4.params.toList ds, x ≤ reachBytes := by
  refine walked_of_spec [9, 27, 36] (by rw [Tryz.params4]) (by intro t ht; simp at ht; rcases ht with rfl | rfl | rfl <;> kernel_rfl) ?_
  intro m vs _ hA
  obtain ⟨v0, r0, rfl, h0, hA⟩ := args_one hA
  obtain ⟨v1, r1, rfl, h1, hA⟩ := args_one hA
  obtain ⟨v2, r2, rfl, h2, hA⟩ := args_one hA
  obtain rfl := args_nil hA
  obtain ⟨secret, rfl, _⟩ := arg_str Tryz.underlying9 h0
  obtain ⟨cs1, rfl, k1⟩ := arg_row Tryz.underlying27 h1
  obtain ⟨TV, tagged, inj, rfl, hT⟩ := rep_trace k1
  obtain ⟨cs2, rfl, k2⟩ := arg_row Tryz.underlying36 h2
  obtain ⟨r, rfl⟩ := rep_wit k2
  have e : TV.toList.toArray = TV := by simp
  have e2 : (witC r).toList.toArray = witC r := by simp
  rw [e, e2]
  exact (lawok_spec m secret TV tagged inj r hT).mono fun u M h => h.1
end Go.Proofs.YtpmgackgcefalaaGreat
